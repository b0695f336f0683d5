/-
  Part 9 of the proof: the abstract machine, proved sound over the model.
  Conditions: none.
-/
import Derived.OrdersHeld
import Derived.Test.YtlpgjlnkfgacbaaGreatX8
set_option linter.unusedVariables false
set_option linter.unusedSimpArgs false
set_option linter.unusedSectionVars false
namespace Go.AM
def nrmE (Fin : Act → World → Prop) : Exit → Act → World → Prop := fun e a w => e = .normal ∧ Fin a w
theorem put_tmp {a : Act} {dst : Option Nat} {v : Value} {t : Nat} (h : dst ≠ some t) : (a.put dst v).tmps[t]? = a.tmps[t]? := by
  cases dst with
  | none => rfl
  | some d =>
    have hd : d ≠ t := fun e => h (by rw [e])
    show (a.tmps.setIfInBounds d v)[t]? = _
    rw [Array.getElem?_setIfInBounds, if_neg hd]
theorem wp_tmp {P : Program} {o : Oper} {a : Act} {w : World} {next : Act → World → Prop} {Fin Fin' : Act → World → Prop} {t : Nat} (hd : o.dst ≠ some t) (h : o.wp P a w next (nrmE Fin)) :
    o.wp P a w (fun a' w' => next a' w' ∧ a'.tmps[t]? = a.tmps[t]?) (nrmE Fin') := by
  unfold Oper.wp at h ⊢
  generalize (execOp a.eval o).run P w = r at *
  cases r with
  | ok n w' =>
    cases n <;> simp only [Oper.upon] at h ⊢
    case value u => exact ⟨h, put_tmp hd⟩
    case skip => exact ⟨h, put_tmp hd⟩
    case defer d => exact ⟨h, put_tmp (a := { a with defers := d :: a.defers }) hd⟩
    case enter f args =>
      refine Calls.mono h fun e w'' he => ?_
      cases e with
      | returned u => exact ⟨he, put_tmp hd⟩
      | panicked c => exact absurd he.1 (by intro h; cases h)
      | outgrown =>
        obtain ⟨a0, w0, h0, _⟩ := he
        cases h0
    case row row args => exact Rows.mono h fun u w'' he => ⟨he, put_tmp hd⟩
  | halt x w' =>
    cases x <;> simp only [Oper.upon] at h ⊢
    case panic u => exact absurd h.1 (by intro h; cases h)
theorem op_of_seq {P : Program} {l : List Oper} {σ : St} {o : Oper} {Qs : St → Prop} {C : Ctx} {E : Env} {X : Nat → List Value} {a : Act} {i t : Nat} {K Fin : Act → World → Prop} (h : SeqL P ⟨l⟩ [o] σ Qs) (hr : Rel C E X σ a) (ho : l[i]? = some o) (hd : o.dst ≠ some t)
    (hK : ∀ E' X' σ' a', Rel C E' X' σ' a' → Qs σ' → a'.tmps[t]? = a.tmps[t]? → K a' E'.w) : wpOp P ⟨l⟩ (nrmE Fin) i K a E.w := by
  have h1 := h C E X a hr (nrmE fun a' w' => ∃ E' X' σ', E'.w = w' ∧ Rel C E' X' σ' a' ∧ Qs σ') (fun E' X' σ' a' h1 h2 => ⟨rfl, E', X', σ', rfl, h1, h2⟩); rw [wpL_cons] at h1
  have ho' : (⟨l⟩ : Array Oper)[i]? = some o := by rw [List.getElem?_toArray]; exact ho
  have hnx : ∀ a' w', wpL P ⟨l⟩ (nrmE fun a' w' => ∃ E' X' σ', E'.w = w' ∧ Rel C E' X' σ' a' ∧ Qs σ') [] a' w' ∧ a'.tmps[t]? = a.tmps[t]? → K a' w' := by
    rintro a' w' ⟨h2, h3⟩; rw [wpL_nil] at h2; obtain ⟨_, E', X', σ', rfl, h4, h5⟩ := h2; exact hK E' X' σ' a' h4 h5 h3
  unfold wpOp
  rw [ho']
  simp only
  split at h1
  · rename_i hw
    rw [if_pos hw]; exact .inl (Oper.wp_mono (fun a' w' h2 => hnx a' w' h2) (wp_tmp hd h1))
  · rename_i hw
    rw [if_neg hw]; exact hnx _ _ ⟨h1, put_tmp hd⟩
def PureW (P : Program) (σ : St) (o : Oper) (v : AV) : Prop :=
  ∀ C E X a, Rel C E X σ a → ∃ y, FV E v y ∧ ∀ w : World, (execOp a.eval o).run P w = .ok (.value y) w
def HT (P : Program) (l : List Oper) (t : Nat) (hb : St → Prop) : Nat → Array Bool → St → (St → Prop) → Prop
  | 0, L, σ, Q => hb σ ∧ Region.ready .any ⟨l⟩ L = [] ∧ Q σ
  | n + 1, L, σ, Q => hb σ ∧ ((Region.ready .any ⟨l⟩ L ≠ [] ∧ ∀ i ∈ Region.ready .any ⟨l⟩ L, ∃ o, l[i]? = some o ∧ o.dst ≠ some t ∧ SeqL P ⟨l⟩ [o] σ fun σ' => HT P l t hb n (L.setIfInBounds i true) σ' Q) ∨
      (∃ (i d : Nat) (o : Oper) (v : AV), l[i]? = some o ∧ o.dst = some d ∧ d ≠ t ∧ d < σ.nt ∧ guardGo (dstsOf ⟨l⟩) σ o.guard = some true ∧ PureW P σ o v ∧ Region.noSelect ⟨l⟩ = true ∧ Region.free .any ⟨l⟩ L i = true ∧ (Region.ready .any ⟨l⟩ L).contains i = true ∧ HT P l t hb n (L.setIfInBounds i true) (σ.put (some d) v) Q) ∨
      ∃ (i d : Nat) (o : Oper), l[i]? = some o ∧ o.dst = some d ∧ d ≠ t ∧ d < σ.nt ∧ guardGo (dstsOf ⟨l⟩) σ o.guard = some false ∧ Region.noSelect ⟨l⟩ = true ∧ Region.free .any ⟨l⟩ L i = true ∧ (Region.ready .any ⟨l⟩ L).contains i = true ∧ HT P l t hb n (L.setIfInBounds i true) (σ.put (some d) (.lit undef)) Q)
theorem HT.hb {P : Program} {l : List Oper} {t : Nat} {hb : St → Prop} {n : Nat} {L : Array Bool} {σ : St} {Q : St → Prop} (h : HT P l t hb n L σ Q) : hb σ := by
  cases n with
  | zero => exact h.1
  | succ _ => exact h.1
theorem take_one {P : Program} {l : List Oper} {S : World → Prop} {Fin : Act → World → Prop} {fuel i d : Nat} {L : Array Bool} {C : Ctx} {E : Env} {X : Nat → List Value} {σ : St} {a : Act} {o : Oper} {v : AV} {y : Value} (hr : Rel C E X σ a) (ho : l[i]? = some o) (hd : o.dst = some d) (hdn : d < σ.nt) (hg : guardGo (dstsOf ⟨l⟩) σ o.guard = some true)
    (h1 : Region.noSelect ⟨l⟩ = true) (h2 : Region.free .any ⟨l⟩ L i = true) (h3 : (Region.ready .any ⟨l⟩ L).contains i = true) (hS : S E.w) (hy : ∀ w, S w → (execOp a.eval o).run P w = .ok (.value y) w) (hv : FV E v y)
    (h : Rel C E X (σ.put (some d) v) (a.put (some d) y) → wpAnyH P .any ⟨l⟩ (nrmE Fin) S fuel (L.setIfInBounds i true) (a.put (some d) y) E.w) : wpAnyH P .any ⟨l⟩ (nrmE Fin) S (fuel + 1) L a E.w := by
  have ho' : (⟨l⟩ : Array Oper)[i]? = some o := by rw [List.getElem?_toArray]; exact ho
  refine wpAnyH_take (v := y) ho' h1 h2 h3 (fun c a w hq => absurd hq.1 (by intro h; cases h)) (.inl ⟨hr.guard hg, hy⟩) hS ?_; rw [hd]; exact h (hr.put (some d) (fun d' e => by cases e; exact hdn) hv)
theorem held_seq {P : Program} {l : List Oper} {t : Nat} {hb : St → Prop} {S : World → Prop} {C : Ctx} {Qn : St → Prop} {v0 : Option Value} (hS : ∀ E X σ a, Rel C E X σ a → hb σ → a.tmps[t]? = v0 → S E.w) :
    ∀ (n : Nat) (L : Array Bool) (E : Env) (X : Nat → List Value) (σ : St) (a : Act), Rel C E X σ a → HT P l t hb n L σ Qn → a.tmps[t]? = v0 →
      wpAnyH P .any ⟨l⟩ (nrmE fun a' w' => ∃ E' X' σ', E'.w = w' ∧ Rel C E' X' σ' a' ∧ Qn σ') S n L a E.w
  | 0, L, E, X, σ, a, hr, h, ht => ⟨h.2.1, rfl, E, X, σ, rfl, hr, h.2.2⟩
  | n + 1, L, E, X, σ, a, hr, h, ht => by
    obtain ⟨hb0, ⟨hne, hs⟩ | ⟨i, d, o, v, ho, hdst, hdt, hdn, hg, hx, hsel, hf, hc, hnext⟩ | ⟨i, d, o, ho, hdst, hdt, hdn, hg, hsel, hf, hc, hnext⟩⟩ := h
    · refine wpAnyH_all rfl hne fun i hi => ?_; obtain ⟨o, ho, hd, hs⟩ := hs i hi; refine op_of_seq hs hr ho hd fun E' X' σ' a' hr' hq ht' => ?_; have ht2 := ht'.trans ht; exact ⟨hS _ _ _ _ hr' hq.hb ht2, held_seq hS n _ E' X' σ' a' hr' hq ht2⟩
    · obtain ⟨y, hv, hrun⟩ := hx C E X a hr; exact take_one hr ho hdst hdn hg hsel hf hc (hS _ _ _ _ hr hb0 ht) (fun w _ => hrun w) hv fun hr1 => held_seq hS n _ E X _ _ hr1 hnext ((put_tmp (fun e => hdt (by simpa using e))).trans ht)
    · have ho' : (⟨l⟩ : Array Oper)[i]? = some o := by rw [List.getElem?_toArray]; exact ho
      refine wpAnyH_take (v := undef) ho' hsel hf hc (fun c a w hq => absurd hq.1 (by intro h; cases h)) (.inr ⟨hr.guard hg, rfl⟩) (hS _ _ _ _ hr hb0 ht) ?_; rw [hdst]; exact held_seq hS n _ E X _ _ (hr.put (some d) (fun d' e => by cases e; exact hdn) (by simp [FV])) hnext ((put_tmp (fun e => hdt (by simpa using e))).trans ht)
structure FreeP (P : Program) (l : List Oper) (f0 f1 f2 f3 d0 d1 d2 d3 : Nat) (o0 o1 : Oper) (st ft n : Nat) (L0 L1 L2 L3 : Array Bool) : Prop where
  h0 : l[f0]? = some o0
  e0 : o0.dst = some d0 ∧ o0.guard = none
  h1 : l[f1]? = some o1
  e1 : o1.dst = some d1 ∧ o1.guard = none ∧ o1.op = o0.op
  h2 : ∃ ty pos aft, l[f2]? = some ⟨some d2, .nilCheck (.tmp d1), ty, pos, aft, none⟩
  h3 : ∃ ty pos aft, l[f3]? = some ⟨some d3, .fieldAddr st (.tmp d2) 0, ty, pos, aft, none⟩
  hf : fieldOf P st 0 = some (0, ft)
  hz : P.cellsOf ft ≠ 0
  len : l.length = n + 1 + 1 + 1 + 1
  sel : Region.noSelect ⟨l⟩ = true
  l0 : Array.replicate l.length false = L0
  l1 : L0.setIfInBounds f0 true = L1
  l2 : L1.setIfInBounds f1 true = L2
  l3 : L2.setIfInBounds f2 true = L3
  k0 : (Region.free .any ⟨l⟩ L0 f0 && (Region.ready .any ⟨l⟩ L0).contains f0 && Region.free .any ⟨l⟩ L1 f1 && (Region.ready .any ⟨l⟩ L1).contains f1 && Region.free .any ⟨l⟩ L2 f2 && (Region.ready .any ⟨l⟩ L2).contains f2 && Region.free .any ⟨l⟩ L3 f3 && (Region.ready .any ⟨l⟩ L3).contains f3) = true
theorem exec_fa {P : Program} {a : Act} {w : World} {o : Oper} {x : Operand} {ad : Addr} {st ft : Nat} (ho : o.op = .fieldAddr st x 0) (hf : fieldOf P st 0 = some (0, ft)) (hz : P.cellsOf ft ≠ 0) (he : a.eval x = .pointer (some ad)) : (execOp a.eval o).run P w = .ok (.value (.pointer (some (ad.add 0)))) w := by
  unfold fieldOf at hf
  split at hf
  · rename_i fs hus
    simp only [Option.map_eq_some_iff] at hf; obtain ⟨fl, hfl, hh⟩ := hf; simp only [Prod.mk.injEq] at hh; obtain ⟨h3, rfl⟩ := hh
    cases hi : P.info? fl.type with
    | none => simp [Program.cellsOf, hi] at hz
    | some i =>
      rw [cellsOf_info hi] at hz
      unfold execOp
      simp [ho, Instr.fieldAt, run_underlying hus, hfl, he, Instr.sureAddr, fieldPlace, run_sizeOf' hi, hz, h3]
  · cases hf
section
variable {P : Program} {s : List (Nat × AV)} {b : List (Nat × Obj)} {n t e : Nat} {Q : Exit → St → Prop}
theorem HT.one {P : Program} {l : List Oper} {t i m : Nat} {hb : St → Prop} {L : Array Bool} {σ : St} {Q : St → Prop} {o : Oper} (h0 : hb σ) (ho : l[i]? = some o) (h : SeqL P ⟨l⟩ [o] σ fun σ' => HT P l t hb m (L.setIfInBounds i true) σ' Q) (hr : Region.ready .any ⟨l⟩ L = [i] := by kernel_rfl) (hd : o.dst ≠ some t := by decide) : HT P l t hb (m + 1) L σ Q :=
  ⟨h0, .inl ⟨by rw [hr]; simp, fun j hj => by rw [hr] at hj; obtain rfl := List.mem_singleton.1 hj; exact ⟨o, ho, hd, h⟩⟩⟩
theorem HT.two {P : Program} {l : List Oper} {t i j m : Nat} {hb : St → Prop} {L : Array Bool} {σ : St} {Q : St → Prop} {o o' : Oper} (h0 : hb σ) (ho : l[i]? = some o) (ho' : l[j]? = some o') (h : SeqL P ⟨l⟩ [o] σ fun σ' => HT P l t hb m (L.setIfInBounds i true) σ' Q) (h' : SeqL P ⟨l⟩ [o'] σ fun σ' => HT P l t hb m (L.setIfInBounds j true) σ' Q)
    (hr : Region.ready .any ⟨l⟩ L = [i, j] := by kernel_rfl) (hd : o.dst ≠ some t := by decide) (hd' : o'.dst ≠ some t := by decide) : HT P l t hb (m + 1) L σ Q :=
  ⟨h0, .inl ⟨by rw [hr]; simp, fun k hk => by
    rw [hr] at hk; simp only [List.mem_cons, List.not_mem_nil, or_false] at hk
    rcases hk with rfl | rfl
    · exact ⟨o, ho, hd, h⟩
    · exact ⟨o', ho', hd', h'⟩⟩⟩
theorem pureW_mv {x : Operand} {v : AV} {d : Option Nat} {ty : Nat} {pos : String} {aft : Array Edge} {g : Option (Nat × Bool)} (hx : opv s x = some v) : PureW P ⟨s, b, n, t, e⟩ ⟨d, .move x, ty, pos, aft, g⟩ v := by
  intro C E X a hr; have hv := hr.ev x; rw [opv_ev hx] at hv; refine ⟨_, hv, fun w => ?_⟩
  unfold execOp
  simp
theorem pureW_fa {st : TypeId} {x : Operand} {f off ft : Nat} {v u : AV} {d : Option Nat} {ty : Nat} {pos : String} {aft : Array Edge} {g : Option (Nat × Bool)} (hf : fieldOf P st f = some (off, ft)) (hz : P.cellsOf ft ≠ 0) (hx : opv s x = some v) (hu : shift off v = some u) : PureW P ⟨s, b, n, t, e⟩ ⟨d, .fieldAddr st x f, ty, pos, aft, g⟩ u := by
  intro C E X a hr; have hv := hr.ev x; rw [opv_ev hx] at hv; obtain ⟨ad, hxe, hfv⟩ := FV.shift hu hv; refine ⟨_, hfv, fun w => ?_⟩
  unfold fieldOf at hf
  split at hf
  · rename_i fs hus
    simp only [Option.map_eq_some_iff] at hf; obtain ⟨fl, hfl, he⟩ := hf; simp only [Prod.mk.injEq] at he; obtain ⟨rfl, rfl⟩ := he
    cases hi : P.info? fl.type with
    | none => simp [Program.cellsOf, hi] at hz
    | some i =>
      rw [cellsOf_info hi] at hz
      unfold execOp
      simp [Instr.fieldAt, run_underlying hus, hfl, hxe, Instr.sureAddr, fieldPlace, run_sizeOf' hi, hz]
  · cases hf
theorem HT.three {P : Program} {l : List Oper} {t i j k m : Nat} {hb : St → Prop} {L : Array Bool} {σ : St} {Q : St → Prop} {o o' o'' : Oper} (h0 : hb σ) (ho : l[i]? = some o) (ho' : l[j]? = some o') (ho'' : l[k]? = some o'') (h : SeqL P ⟨l⟩ [o] σ fun σ' => HT P l t hb m (L.setIfInBounds i true) σ' Q) (h' : SeqL P ⟨l⟩ [o'] σ fun σ' => HT P l t hb m (L.setIfInBounds j true) σ' Q) (h'' : SeqL P ⟨l⟩ [o''] σ fun σ' => HT P l t hb m (L.setIfInBounds k true) σ' Q)
    (hr : Region.ready .any ⟨l⟩ L = [i, j, k] := by kernel_rfl) (hd : o.dst ≠ some t := by decide) (hd' : o'.dst ≠ some t := by decide) (hd'' : o''.dst ≠ some t := by decide) : HT P l t hb (m + 1) L σ Q :=
  ⟨h0, .inl ⟨by rw [hr]; simp, fun q hq => by
    rw [hr] at hq; simp only [List.mem_cons, List.not_mem_nil, or_false] at hq
    rcases hq with rfl | rfl | rfl
    · exact ⟨o, ho, hd, h⟩
    · exact ⟨o', ho', hd', h'⟩
    · exact ⟨o'', ho'', hd'', h''⟩⟩⟩
theorem HT.nil {P : Program} {l : List Oper} {t : Nat} {hb : St → Prop} {L : Array Bool} {σ : St} {Q : St → Prop} (h0 : hb σ) (hr : Region.ready .any ⟨l⟩ L = []) (h : Q σ) : HT P l t hb 0 L σ Q := ⟨h0, hr, h⟩
end
section
variable {P : Program} {s : List (Nat × AV)} {b : List (Nat × Obj)} {n t e : Nat} {rs : List ResultVar} {vs cs : List AV} {u v w x : AV} {r ri rj a q : Nat}
theorem res_n : resAV P ⟨s, b, n, t, e⟩ [] = some [] := rfl
theorem res_t (h : resAV P ⟨s, b, n, t, e⟩ rs = some vs) (h1 : find s q = some v := by exact rfl) : resAV P ⟨s, b, n, t, e⟩ (.tmp q :: rs) = some (v :: vs) := by
  simp only [resAV, h, Option.map_some, St.get, h1, Option.getD_some]
theorem res_c {lt c : Nat} {o : Obj} {row : List AV} (cs : List AV) (ha : isAggT P lt = some true) (hcl : P.cellsOf lt = c) (h : resAV P ⟨s, b, n, t, e⟩ rs = some vs) (h1 : find s a = some (.adr r ri rj) := by exact rfl) (ho : find b r = some o := by exact rfl) (hr : o.rows[ri]? = some row := by exact rfl) (hb : Nat.ble c (row.drop rj).length = true := by exact rfl) (hc : (row.drop rj).take c = cs := by exact rfl) : resAV P ⟨s, b, n, t, e⟩ (.cell a lt :: rs) = some (.agg cs :: vs) := by
  have e1 : St.get ⟨s, b, n, t, e⟩ a = .adr r ri rj := by simp only [St.get, h1, Option.getD_some]
  have e2 : loadAV P ⟨s, b, n, t, e⟩ lt (.adr r ri rj) = some (.agg cs) := by
    subst hc; simp only [loadAV, ha, cells_adr ho hr rfl, hcl, hb, cond_true]
  simp only [resAV, e1, e2, h]
variable {Post : AV → List (Nat × Obj) → Prop}
theorem Ev.retv1 (hr : resAV P ⟨s, b, n, t, e⟩ rs = some [v]) (h : Post v []) (hc : closedAV v = true := by exact rfl) : endP P rs Post .ret ⟨s, b, n, t, e⟩ := endP_of hr hc h
theorem Ev.retv2 (hr : resAV P ⟨s, b, n, t, e⟩ rs = some [u, v]) (h : Post (.tup [u, v]) []) (hc : closedL [u, v] = true := by exact rfl) : endP P rs Post .ret ⟨s, b, n, t, e⟩ := endP_of hr (by simpa [packAV, closedAV] using hc) h
variable {ops : Array Oper} {rest : List Oper} {Q : St → Prop} {d ty : Nat} {pos : String} {aft : Array Edge} {g : Option (Nat × Bool)} {y z : Operand} {k k' : IntKind}
theorem S.mk {st el c by' m : Nat} {zs : List AV} (hel : elemOfSlice P st = some el) (hz : zeroCellsAV P el = some zs) (hcl : P.cellsOf el = c) (hby : P.bytesOf el = by') (h : SeqL P ops rest ⟨(d, .als n 0 m) :: s, (n, ⟨true, el, c, List.replicate m zs, true⟩) :: b, n + 1, t, e⟩ Q)
    (hx : opv s y = some (.lit (.int k (m : Int))) := by exact rfl) (hy : opv s z = some (.lit (.int k' (m : Int))) := by exact rfl) (hm : m ≤ 1000000 := by omega) (hmb : m * by' ≤ 100000000 := by omega) (hmc : m * c ≤ 2 ^ 24 := by omega) (hzc : (Nat.beq zs.length c && !Nat.beq c 0) = true := by exact rfl)
    (hg : guardGo (dstsOf ops) ⟨s, b, n, t, e⟩ g = some true := by exact rfl) (hd : Nat.blt d t = true := by exact rfl) :
    SeqL P ops (⟨some d, .makeSlice st y z, ty, pos, aft, g⟩ :: rest) ⟨s, b, n, t, e⟩ Q := by
  subst hcl; simp only [Bool.and_eq_true, Nat.beq_eq, Bool.not_eq_true'] at hzc
  have hl : Local P ⟨s, b, n, t, e⟩ ⟨some d, .makeSlice st y z, ty, pos, aft, g⟩ (.als n 0 m) [(n, ⟨true, el, P.cellsOf el, List.replicate m zs, true⟩)] :=
    Local.makeSlice rfl hel hz hzc.1 (beq_false_ne hzc.2) hby (opv_ev hx) (opv_ev hy) hm hmb hmc
  have hw : Writer P ⟨s, b, n, t, e⟩ ⟨some d, .makeSlice st y z, ty, pos, aft, g⟩ ((⟨s, b, n, t, e⟩ : St).ext (some d) (.als n 0 m) [(n, ⟨true, el, P.cellsOf el, List.replicate m zs, true⟩)] (n + 1)) := by
    refine Writer.of_local hl (fun d' e => ?_) (fun r o h => ?_) (Nat.le_succ _)
    · simp only [Option.some.injEq] at e; subst e; exact Nat.le_of_ble_eq_true hd
    · rw [find_cons] at h
      split at h
      · show n ≤ r ∧ r < n + 1; omega
      · simp [find] at h
  exact SeqL.write hg hw h
theorem S.mkf {T : Type} {f : T → List AV} (z0 : T) {st el c by' m : Nat} {zs : List AV} (hel : elemOfSlice P st = some el) (hz : zeroCellsAV P el = some zs) (hcl : P.cellsOf el = c) (hby : P.bytesOf el = by') (h : SeqL P ops rest ⟨(d, .als n 0 (List.replicate m z0).length) :: s, (n, ⟨true, el, c, (List.replicate m z0).map f, true⟩) :: b, n + 1, t, e⟩ Q)
    (hx : opv s y = some (.lit (.int k (m : Int))) := by exact rfl) (hy : opv s z = some (.lit (.int k' (m : Int))) := by exact rfl) (hf : f z0 = zs := by exact rfl) (hm : m ≤ 1000000 := by first | omega | decide) (hmb : m * by' ≤ 100000000 := by first | omega | decide) (hmc : m * c ≤ 2 ^ 24 := by first | omega | decide) (hzc : (Nat.beq zs.length c && !Nat.beq c 0) = true := by exact rfl)
    (hg : guardGo (dstsOf ops) ⟨s, b, n, t, e⟩ g = some true := by exact rfl) (hd : Nat.blt d t = true := by exact rfl) :
    SeqL P ops (⟨some d, .makeSlice st y z, ty, pos, aft, g⟩ :: rest) ⟨s, b, n, t, e⟩ Q := by
  subst hf; refine S.mk hel hz hcl hby ?_ hx hy hm hmb hmc hzc hg hd
  rwa [List.map_replicate, List.length_replicate] at h
theorem Ev.own1 {q r m : Nat} {slc : Bool} {el sz : Nat} {rows : List (List AV)} (h : Post (.als 0 0 m) [(0, ⟨slc, el, sz, rows, true⟩)]) (h1 : find s q = some (.als r 0 m) := by exact rfl) (ho : find b r = some ⟨slc, el, sz, rows, true⟩ := by exact rfl) :
    endP P [.tmp q] Post .ret ⟨s, b, n, t, e⟩ := by
  refine ⟨[r], by simp, ?_⟩; simp only [retP, resAV, St.get, h1, Option.getD_some, Option.map_some, packAV, renAV, keepObjs, ho, Option.bind_some, renObj, pos, if_true, Nat.beq_refl, cond_true]; exact h
end
end Go.AM
