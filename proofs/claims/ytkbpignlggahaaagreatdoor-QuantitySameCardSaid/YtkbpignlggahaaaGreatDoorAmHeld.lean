/-
  The abstract machine, continued: a drawn region with three operations that may be taken first (a pointer, its check, its first field), the rest one after another: 'k.l = append(k.l, ..)'.
  Conditions: none; generic over the program.
-/
import Derived.Test.YtkbpignlggahaaaGreatDoorAmAuto
import Derived.OrdersHeld
namespace Go.AM
set_option linter.unusedVariables false
set_option linter.unusedSimpArgs false
set_option linter.unusedSectionVars false
def nrmE (Fin : Act → World → Prop) : Exit → Act → World → Prop := fun e a w => e = .normal ∧ Fin a w
theorem put_tmp {a : Act} {dst : Option Nat} {v : Value} {t : Nat} (h : dst ≠ some t) : (a.put dst v).tmps[t]? = a.tmps[t]? := by
  cases dst with
  | none => rfl
  | some d =>
    have hd : d ≠ t := fun e => h (by rw [e])
    show (a.tmps.setIfInBounds d v)[t]? = _
    rw [Array.getElem?_setIfInBounds, if_neg hd]
theorem wp_tmp {P : Program} {o : Oper} {a : Act} {w : World} {next : Act → World → Prop} {Fin Fin' : Act → World → Prop} {t : Nat} (hd : o.dst ≠ some t) (h : o.wp P a w next (nrmE Fin)) :
    o.wp P a w (fun a' w' => next a' w' ∧ a'.tmps[t]? = a.tmps[t]?) (nrmE Fin') := by
  unfold Oper.wp at h ⊢
  generalize (execOp a.eval o).run P w = r at *
  cases r with
  | ok n w' =>
    cases n <;> simp only [Oper.upon] at h ⊢
    case value u => exact ⟨h, put_tmp hd⟩
    case skip => exact ⟨h, put_tmp hd⟩
    case defer d => exact ⟨h, put_tmp (a := { a with defers := d :: a.defers }) hd⟩
    case enter f args =>
      refine Calls.mono h fun e w'' he => ?_
      cases e with
      | returned u => exact ⟨he, put_tmp hd⟩
      | panicked c => exact absurd he.1 (by intro h; cases h)
      | outgrown =>
        obtain ⟨a0, w0, h0, _⟩ := he
        cases h0
    case row row args => exact Rows.mono h fun u w'' he => ⟨he, put_tmp hd⟩
  | halt x w' =>
    cases x <;> simp only [Oper.upon] at h ⊢
    case panic u => exact absurd h.1 (by intro h; cases h)
theorem op_of_seq {P : Program} {l : List Oper} {σ : St} {o : Oper} {Qs : St → Prop} {C : Ctx} {E : Env} {X : Nat → List Value} {a : Act} {i t : Nat} {K Fin : Act → World → Prop} (h : SeqL P ⟨l⟩ [o] σ Qs) (hr : Rel C E X σ a) (ho : l[i]? = some o) (hd : o.dst ≠ some t)
    (hK : ∀ E' X' σ' a', Rel C E' X' σ' a' → Qs σ' → a'.tmps[t]? = a.tmps[t]? → K a' E'.w) : wpOp P ⟨l⟩ (nrmE Fin) i K a E.w := by
  have h1 := h C E X a hr (nrmE fun a' w' => ∃ E' X' σ', E'.w = w' ∧ Rel C E' X' σ' a' ∧ Qs σ') (fun E' X' σ' a' h1 h2 => ⟨rfl, E', X', σ', rfl, h1, h2⟩); rw [wpL_cons] at h1
  have ho' : (⟨l⟩ : Array Oper)[i]? = some o := by rw [List.getElem?_toArray]; exact ho
  have hnx : ∀ a' w', wpL P ⟨l⟩ (nrmE fun a' w' => ∃ E' X' σ', E'.w = w' ∧ Rel C E' X' σ' a' ∧ Qs σ') [] a' w' ∧ a'.tmps[t]? = a.tmps[t]? → K a' w' := by
    rintro a' w' ⟨h2, h3⟩; rw [wpL_nil] at h2; obtain ⟨_, E', X', σ', rfl, h4, h5⟩ := h2; exact hK E' X' σ' a' h4 h5 h3
  unfold wpOp
  rw [ho']
  simp only
  split at h1
  · rename_i hw
    rw [if_pos hw]; exact .inl (Oper.wp_mono (fun a' w' h2 => hnx a' w' h2) (wp_tmp hd h1))
  · rename_i hw
    rw [if_neg hw]; exact hnx _ _ ⟨h1, put_tmp hd⟩
def PureW (P : Program) (σ : St) (o : Oper) (v : AV) : Prop :=
  ∀ C E X a, Rel C E X σ a → ∃ y, FV E v y ∧ ∀ w : World, (execOp a.eval o).run P w = .ok (.value y) w
def HT (P : Program) (l : List Oper) (t : Nat) (hb : St → Prop) : Nat → Array Bool → St → (St → Prop) → Prop
  | 0, L, σ, Q => hb σ ∧ Region.ready .any ⟨l⟩ L = [] ∧ Q σ
  | n + 1, L, σ, Q => hb σ ∧ ((Region.ready .any ⟨l⟩ L ≠ [] ∧ ∀ i ∈ Region.ready .any ⟨l⟩ L, ∃ o, l[i]? = some o ∧ o.dst ≠ some t ∧ SeqL P ⟨l⟩ [o] σ fun σ' => HT P l t hb n (L.setIfInBounds i true) σ' Q) ∨
      (∃ (i d : Nat) (o : Oper) (v : AV), l[i]? = some o ∧ o.dst = some d ∧ d ≠ t ∧ d < σ.nt ∧ guardGo (dstsOf ⟨l⟩) σ o.guard = some true ∧ PureW P σ o v ∧ Region.noSelect ⟨l⟩ = true ∧ Region.free .any ⟨l⟩ L i = true ∧ (Region.ready .any ⟨l⟩ L).contains i = true ∧ HT P l t hb n (L.setIfInBounds i true) (σ.put (some d) v) Q) ∨
      ∃ (i d : Nat) (o : Oper), l[i]? = some o ∧ o.dst = some d ∧ d ≠ t ∧ d < σ.nt ∧ guardGo (dstsOf ⟨l⟩) σ o.guard = some false ∧ Region.noSelect ⟨l⟩ = true ∧ Region.free .any ⟨l⟩ L i = true ∧ (Region.ready .any ⟨l⟩ L).contains i = true ∧ HT P l t hb n (L.setIfInBounds i true) (σ.put (some d) (.lit undef)) Q)
theorem HT.hb {P : Program} {l : List Oper} {t : Nat} {hb : St → Prop} {n : Nat} {L : Array Bool} {σ : St} {Q : St → Prop} (h : HT P l t hb n L σ Q) : hb σ := by
  cases n with
  | zero => exact h.1
  | succ _ => exact h.1
theorem take_one {P : Program} {l : List Oper} {S : World → Prop} {Fin : Act → World → Prop} {fuel i d : Nat} {L : Array Bool} {C : Ctx} {E : Env} {X : Nat → List Value} {σ : St} {a : Act} {o : Oper} {v : AV} {y : Value} (hr : Rel C E X σ a) (ho : l[i]? = some o) (hd : o.dst = some d) (hdn : d < σ.nt) (hg : guardGo (dstsOf ⟨l⟩) σ o.guard = some true)
    (h1 : Region.noSelect ⟨l⟩ = true) (h2 : Region.free .any ⟨l⟩ L i = true) (h3 : (Region.ready .any ⟨l⟩ L).contains i = true) (hS : S E.w) (hy : ∀ w, S w → (execOp a.eval o).run P w = .ok (.value y) w) (hv : FV E v y)
    (h : Rel C E X (σ.put (some d) v) (a.put (some d) y) → wpAnyH P .any ⟨l⟩ (nrmE Fin) S fuel (L.setIfInBounds i true) (a.put (some d) y) E.w) : wpAnyH P .any ⟨l⟩ (nrmE Fin) S (fuel + 1) L a E.w := by
  have ho' : (⟨l⟩ : Array Oper)[i]? = some o := by rw [List.getElem?_toArray]; exact ho
  refine wpAnyH_take (v := y) ho' h1 h2 h3 (fun c a w hq => absurd hq.1 (by intro h; cases h)) (.inl ⟨hr.guard hg, hy⟩) hS ?_; rw [hd]; exact h (hr.put (some d) (fun d' e => by cases e; exact hdn) hv)
theorem held_seq {P : Program} {l : List Oper} {t : Nat} {hb : St → Prop} {S : World → Prop} {C : Ctx} {Qn : St → Prop} {v0 : Option Value} (hS : ∀ E X σ a, Rel C E X σ a → hb σ → a.tmps[t]? = v0 → S E.w) :
    ∀ (n : Nat) (L : Array Bool) (E : Env) (X : Nat → List Value) (σ : St) (a : Act), Rel C E X σ a → HT P l t hb n L σ Qn → a.tmps[t]? = v0 →
      wpAnyH P .any ⟨l⟩ (nrmE fun a' w' => ∃ E' X' σ', E'.w = w' ∧ Rel C E' X' σ' a' ∧ Qn σ') S n L a E.w
  | 0, L, E, X, σ, a, hr, h, ht => ⟨h.2.1, rfl, E, X, σ, rfl, hr, h.2.2⟩
  | n + 1, L, E, X, σ, a, hr, h, ht => by
    obtain ⟨hb0, ⟨hne, hs⟩ | ⟨i, d, o, v, ho, hdst, hdt, hdn, hg, hx, hsel, hf, hc, hnext⟩ | ⟨i, d, o, ho, hdst, hdt, hdn, hg, hsel, hf, hc, hnext⟩⟩ := h
    · refine wpAnyH_all rfl hne fun i hi => ?_; obtain ⟨o, ho, hd, hs⟩ := hs i hi; refine op_of_seq hs hr ho hd fun E' X' σ' a' hr' hq ht' => ?_; have ht2 := ht'.trans ht; exact ⟨hS _ _ _ _ hr' hq.hb ht2, held_seq hS n _ E' X' σ' a' hr' hq ht2⟩
    · obtain ⟨y, hv, hrun⟩ := hx C E X a hr; exact take_one hr ho hdst hdn hg hsel hf hc (hS _ _ _ _ hr hb0 ht) (fun w _ => hrun w) hv fun hr1 => held_seq hS n _ E X _ _ hr1 hnext ((put_tmp (fun e => hdt (by simpa using e))).trans ht)
    · have ho' : (⟨l⟩ : Array Oper)[i]? = some o := by rw [List.getElem?_toArray]; exact ho
      refine wpAnyH_take (v := undef) ho' hsel hf hc (fun c a w hq => absurd hq.1 (by intro h; cases h)) (.inr ⟨hr.guard hg, rfl⟩) (hS _ _ _ _ hr hb0 ht) ?_; rw [hdst]; exact held_seq hS n _ E X _ _ (hr.put (some d) (fun d' e => by cases e; exact hdn) (by simp [FV])) hnext ((put_tmp (fun e => hdt (by simpa using e))).trans ht)
theorem getD_of {A B : Array Value} {t : Nat} (h : A[t]? = B[t]?) : A.getD t undef = B.getD t undef := by
  rw [Array.getD_eq_getD_getElem?, Array.getD_eq_getD_getElem?, h]
structure FreeP (P : Program) (l : List Oper) (f0 f1 f2 f3 d0 d1 d2 d3 : Nat) (o0 o1 : Oper) (st ft n : Nat) (L0 L1 L2 L3 : Array Bool) : Prop where
  h0 : l[f0]? = some o0
  e0 : o0.dst = some d0 ∧ o0.guard = none
  h1 : l[f1]? = some o1
  e1 : o1.dst = some d1 ∧ o1.guard = none ∧ o1.op = o0.op
  h2 : ∃ ty pos aft, l[f2]? = some ⟨some d2, .nilCheck (.tmp d1), ty, pos, aft, none⟩
  h3 : ∃ ty pos aft, l[f3]? = some ⟨some d3, .fieldAddr st (.tmp d2) 0, ty, pos, aft, none⟩
  hf : fieldOf P st 0 = some (0, ft)
  hz : P.cellsOf ft ≠ 0
  len : l.length = n + 1 + 1 + 1 + 1
  sel : Region.noSelect ⟨l⟩ = true
  l0 : Array.replicate l.length false = L0
  l1 : L0.setIfInBounds f0 true = L1
  l2 : L1.setIfInBounds f1 true = L2
  l3 : L2.setIfInBounds f2 true = L3
  k0 : (Region.free .any ⟨l⟩ L0 f0 && (Region.ready .any ⟨l⟩ L0).contains f0 && Region.free .any ⟨l⟩ L1 f1 && (Region.ready .any ⟨l⟩ L1).contains f1 && Region.free .any ⟨l⟩ L2 f2 && (Region.ready .any ⟨l⟩ L2).contains f2 && Region.free .any ⟨l⟩ L3 f3 && (Region.ready .any ⟨l⟩ L3).contains f3) = true
theorem exec_nc {P : Program} {a : Act} {w : World} {o : Oper} {x : Operand} {ad : Addr} (ho : o.op = .nilCheck x) (he : a.eval x = .pointer (some ad)) : (execOp a.eval o).run P w = .ok (.value (.pointer (some ad))) w := by
  unfold execOp
  simp [ho, he]
theorem exec_fa {P : Program} {a : Act} {w : World} {o : Oper} {x : Operand} {ad : Addr} {st ft : Nat} (ho : o.op = .fieldAddr st x 0) (hf : fieldOf P st 0 = some (0, ft)) (hz : P.cellsOf ft ≠ 0) (he : a.eval x = .pointer (some ad)) : (execOp a.eval o).run P w = .ok (.value (.pointer (some (ad.add 0)))) w := by
  unfold fieldOf at hf
  split at hf
  · rename_i fs hus
    simp only [Option.map_eq_some_iff] at hf; obtain ⟨fl, hfl, hh⟩ := hf; simp only [Prod.mk.injEq] at hh; obtain ⟨h3, rfl⟩ := hh
    cases hi : P.info? fl.type with
    | none => simp [Program.cellsOf, hi] at hz
    | some i =>
      rw [cellsOf_info hi] at hz
      unfold execOp
      simp [ho, Instr.fieldAt, run_underlying hus, hfl, he, Instr.sureAddr, fieldPlace, run_sizeOf' hi, hz, h3]
  · cases hf
theorem Ev.heldA {P : Program} {l : List Oper} {σ : St} {Q : Exit → St → Prop} {id f0 f1 f2 f3 d0 d1 d2 d3 tp st ft r n : Nat} {o0 o1 : Oper} {L0 L1 L2 L3 : Array Bool} (F : FreeP P l f0 f1 f2 f3 d0 d1 d2 d3 o0 o1 st ft n L0 L1 L2 L3) (hb : St → Prop) (hm : P.follows .mixedOrders = true) (hn0 : d0 < σ.nt) (hn1 : d1 < σ.nt) (hn2 : d2 < σ.nt) (hn3 : d3 < σ.nt) (hne : d0 ≠ tp ∧ d1 ≠ tp ∧ d2 ≠ tp ∧ d3 ≠ tp)
    (hsrc : ∀ C E X a, Rel C E X σ a → ∃ (S : World → Prop) (ad : Addr), S E.w.drew ∧ (∀ (a' : Act) (o : Oper) w, a'.tmps[tp]? = a.tmps[tp]? → o.op = o0.op → S w → (execOp a'.eval o).run P w = .ok (.value (.pointer (some ad))) w) ∧ FV E (.adr r 0 0) (.pointer (some ad)) ∧ ∀ E' X' σ' a', Rel C E' X' σ' a' → hb σ' → a'.tmps[tp]? = a.tmps[tp]? → S E'.w)
    (h : HT P l tp hb n (L3.setIfInBounds f3 true) ((((σ.put (some d0) (.adr r 0 0)).put (some d1) (.adr r 0 0)).put (some d2) (.adr r 0 0)).put (some d3) (.adr r 0 0)) (Q .normal)) : Ev P (.region id ⟨l⟩ true) σ Q := by
  intro C E X a hr; obtain ⟨S, ad, hS0, hrun, hfv, hSk⟩ := hsrc C E X a hr
  refine wp_mono (wp_region_held (Q := nrmE fun a' w' => ∃ E' X' σ', E'.w = w' ∧ Rel C E' X' σ' a' ∧ Q .normal σ') (S := S) hm ?_) (fun e' a' w' hq => by
    obtain ⟨rfl, E', X', σ', h1, h2, h3⟩ := hq
    exact ⟨E', X', σ', h1, h2, h3⟩)
  have hrd := hr.drew
  have hfvd : FV { E with w := E.w.drew } (.adr r 0 0) (.pointer (some ad)) := by simpa [FV] using hfv
  have hk := F.k0; simp only [Bool.and_eq_true] at hk; obtain ⟨⟨⟨⟨⟨⟨⟨k0, k0'⟩, k1⟩, k1'⟩, k2⟩, k2'⟩, k3⟩, k3'⟩ := hk
  show wpAnyH P .any ⟨l⟩ _ S l.length (Array.replicate l.length false) a ({ E with w := E.w.drew } : Env).w
  rw [F.l0, F.len]; obtain ⟨ty2, pos2, aft2, h2⟩ := F.h2; obtain ⟨ty3, pos3, aft3, h3⟩ := F.h3
  have sz : ∀ {d : Nat}, d < σ.nt → d < a.tmps.size := fun hd => by rw [hr.size]; exact hd
  refine take_one hrd F.h0 F.e0.1 hn0 (by rw [F.e0.2]; rfl) F.sel k0 k0' hS0 (fun w hw => hrun a o0 w rfl rfl hw) hfvd fun hr1 => ?_; rw [F.l1]; have ht1 : (a.put (some d0) (.pointer (some ad))).tmps[tp]? = a.tmps[tp]? := put_tmp (fun e => hne.1 (by simpa using e)); refine take_one hr1 F.h1 F.e1.1 hn1 (by rw [F.e1.2.1]; rfl) F.sel k1 k1' hS0 (fun w hw => hrun _ o1 w ht1 F.e1.2.2 hw) hfvd fun hr2 => ?_; rw [F.l2]; have ht2 : ((a.put (some d0) (.pointer (some ad))).put (some d1) (.pointer (some ad))).tmps[tp]? = a.tmps[tp]? := (put_tmp (fun e => hne.2.1 (by simpa using e))).trans ht1
  have hev2 : ((a.put (some d0) (.pointer (some ad))).put (some d1) (.pointer (some ad))).eval (.tmp d1) = .pointer (some ad) := by
    show ((a.tmps.setIfInBounds d0 _).setIfInBounds d1 _).getD d1 undef = _
    have := sz hn1
    simp [Array.getD_eq_getD_getElem?, Array.getElem?_setIfInBounds, this]
  refine take_one hr2 h2 rfl hn2 rfl F.sel k2 k2' hS0 (fun w _ => exec_nc rfl hev2) hfvd fun hr3 => ?_; rw [F.l3]; have ht3 : (((a.put (some d0) (.pointer (some ad))).put (some d1) (.pointer (some ad))).put (some d2) (.pointer (some ad))).tmps[tp]? = a.tmps[tp]? := (put_tmp (fun e => hne.2.2.1 (by simpa using e))).trans ht2
  have hev3 : (((a.put (some d0) (.pointer (some ad))).put (some d1) (.pointer (some ad))).put (some d2) (.pointer (some ad))).eval (.tmp d2) = .pointer (some ad) := by
    show (((a.tmps.setIfInBounds d0 _).setIfInBounds d1 _).setIfInBounds d2 _).getD d2 undef = _
    have := sz hn2
    simp [Array.getD_eq_getD_getElem?, Array.getElem?_setIfInBounds, this]
  refine take_one hr3 h3 rfl hn3 rfl F.sel k3 k3' hS0 (fun w _ => exec_fa rfl F.hf F.hz hev3) (by rw [Addr.add_zero']; exact hfvd) fun hr4 => ?_; have ht4 := (put_tmp (a := (((a.put (some d0) (.pointer (some ad))).put (some d1) (.pointer (some ad))).put (some d2) (.pointer (some ad)))) (dst := some d3) (v := .pointer (some (ad.add 0))) (t := tp) (fun e => hne.2.2.2 (by simpa using e))).trans ht3; exact held_seq hSk n _ _ X _ _ hr4 h ht4
section
variable {P : Program} {s : List (Nat × AV)} {b : List (Nat × Obj)} {n t e : Nat} {Q : Exit → St → Prop}
theorem HT.one {P : Program} {l : List Oper} {t i m : Nat} {hb : St → Prop} {L : Array Bool} {σ : St} {Q : St → Prop} {o : Oper} (h0 : hb σ) (ho : l[i]? = some o) (h : SeqL P ⟨l⟩ [o] σ fun σ' => HT P l t hb m (L.setIfInBounds i true) σ' Q) (hr : Region.ready .any ⟨l⟩ L = [i] := by kernel_rfl) (hd : o.dst ≠ some t := by decide) : HT P l t hb (m + 1) L σ Q :=
  ⟨h0, .inl ⟨by rw [hr]; simp, fun j hj => by rw [hr] at hj; obtain rfl := List.mem_singleton.1 hj; exact ⟨o, ho, hd, h⟩⟩⟩
theorem HT.two {P : Program} {l : List Oper} {t i j m : Nat} {hb : St → Prop} {L : Array Bool} {σ : St} {Q : St → Prop} {o o' : Oper} (h0 : hb σ) (ho : l[i]? = some o) (ho' : l[j]? = some o') (h : SeqL P ⟨l⟩ [o] σ fun σ' => HT P l t hb m (L.setIfInBounds i true) σ' Q) (h' : SeqL P ⟨l⟩ [o'] σ fun σ' => HT P l t hb m (L.setIfInBounds j true) σ' Q)
    (hr : Region.ready .any ⟨l⟩ L = [i, j] := by kernel_rfl) (hd : o.dst ≠ some t := by decide) (hd' : o'.dst ≠ some t := by decide) : HT P l t hb (m + 1) L σ Q :=
  ⟨h0, .inl ⟨by rw [hr]; simp, fun k hk => by
    rw [hr] at hk; simp only [List.mem_cons, List.not_mem_nil, or_false] at hk
    rcases hk with rfl | rfl
    · exact ⟨o, ho, hd, h⟩
    · exact ⟨o', ho', hd', h'⟩⟩⟩
theorem pureW_mv {x : Operand} {v : AV} {d : Option Nat} {ty : Nat} {pos : String} {aft : Array Edge} {g : Option (Nat × Bool)} (hx : opv s x = some v) : PureW P ⟨s, b, n, t, e⟩ ⟨d, .move x, ty, pos, aft, g⟩ v := by
  intro C E X a hr; have hv := hr.ev x; rw [opv_ev hx] at hv; refine ⟨_, hv, fun w => ?_⟩
  unfold execOp
  simp
theorem pureW_ex {x : Operand} {v : AV} {k : Nat} {vs : List AV} {d : Option Nat} {ty : Nat} {pos : String} {aft : Array Edge} {g : Option (Nat × Bool)} (hx : opv s x = some (.tup vs)) (hk : vs[k]? = some v) : PureW P ⟨s, b, n, t, e⟩ ⟨d, .extract x k, ty, pos, aft, g⟩ v := by
  intro C E X a hr; have hv := hr.ev x; rw [opv_ev hx] at hv; simp only [FV] at hv; obtain ⟨xs, he, hs⟩ := hv; obtain ⟨y, hy, hfv⟩ := hs.get hk; refine ⟨y, hfv, fun w => ?_⟩
  unfold execOp
  have : xs[k]? = some y := by simpa using hy
  simp [Instr.extract, he, this]
theorem pureW_pk {c x y : Operand} {u : Bool} {v : AV} {d : Option Nat} {ty : Nat} {pos : String} {aft : Array Edge} {g : Option (Nat × Bool)} (hc : opv s c = some (.lit (.bool u))) (hx : opv s (if u then x else y) = some v) : PureW P ⟨s, b, n, t, e⟩ ⟨d, .pick c x y, ty, pos, aft, g⟩ v := by
  intro C E X a hr; have h := hr.ev c; rw [opv_ev hc] at h; simp only [FV] at h; have hv := hr.ev (if u then x else y); rw [opv_ev hx] at hv; refine ⟨_, hv, fun w => ?_⟩
  unfold execOp
  simp [h, asBool]
  cases u <;> simp
theorem pureW_fa {st : TypeId} {x : Operand} {f off ft : Nat} {v u : AV} {d : Option Nat} {ty : Nat} {pos : String} {aft : Array Edge} {g : Option (Nat × Bool)} (hf : fieldOf P st f = some (off, ft)) (hz : P.cellsOf ft ≠ 0) (hx : opv s x = some v) (hu : shift off v = some u) : PureW P ⟨s, b, n, t, e⟩ ⟨d, .fieldAddr st x f, ty, pos, aft, g⟩ u := by
  intro C E X a hr; have hv := hr.ev x; rw [opv_ev hx] at hv; obtain ⟨ad, hxe, hfv⟩ := FV.shift hu hv; refine ⟨_, hfv, fun w => ?_⟩
  unfold fieldOf at hf
  split at hf
  · rename_i fs hus
    simp only [Option.map_eq_some_iff] at hf; obtain ⟨fl, hfl, he⟩ := hf; simp only [Prod.mk.injEq] at he; obtain ⟨rfl, rfl⟩ := he
    cases hi : P.info? fl.type with
    | none => simp [Program.cellsOf, hi] at hz
    | some i =>
      rw [cellsOf_info hi] at hz
      unfold execOp
      simp [Instr.fieldAt, run_underlying hus, hfl, hxe, Instr.sureAddr, fieldPlace, run_sizeOf' hi, hz]
  · cases hf
theorem HT.three {P : Program} {l : List Oper} {t i j k m : Nat} {hb : St → Prop} {L : Array Bool} {σ : St} {Q : St → Prop} {o o' o'' : Oper} (h0 : hb σ) (ho : l[i]? = some o) (ho' : l[j]? = some o') (ho'' : l[k]? = some o'') (h : SeqL P ⟨l⟩ [o] σ fun σ' => HT P l t hb m (L.setIfInBounds i true) σ' Q) (h' : SeqL P ⟨l⟩ [o'] σ fun σ' => HT P l t hb m (L.setIfInBounds j true) σ' Q) (h'' : SeqL P ⟨l⟩ [o''] σ fun σ' => HT P l t hb m (L.setIfInBounds k true) σ' Q)
    (hr : Region.ready .any ⟨l⟩ L = [i, j, k] := by kernel_rfl) (hd : o.dst ≠ some t := by decide) (hd' : o'.dst ≠ some t := by decide) (hd'' : o''.dst ≠ some t := by decide) : HT P l t hb (m + 1) L σ Q :=
  ⟨h0, .inl ⟨by rw [hr]; simp, fun q hq => by
    rw [hr] at hq; simp only [List.mem_cons, List.not_mem_nil, or_false] at hq
    rcases hq with rfl | rfl | rfl
    · exact ⟨o, ho, hd, h⟩
    · exact ⟨o', ho', hd', h'⟩
    · exact ⟨o'', ho'', hd'', h''⟩⟩⟩
theorem HT.pu {P : Program} {l : List Oper} {tt i m d : Nat} {o : Oper} {hb : St → Prop} {L : Array Bool} {Q : St → Prop} {v : AV} (h0 : hb ⟨s, b, n, t, e⟩) (ho : l[i]? = some o) (hod : o.dst = some d) (hx : PureW P ⟨s, b, n, t, e⟩ o v) (hdn : Nat.blt d t = true := by exact rfl) (hg : guardGo (dstsOf ⟨l⟩) ⟨s, b, n, t, e⟩ o.guard = some true := by exact rfl) (hc : (Region.noSelect ⟨l⟩ && Region.free .any ⟨l⟩ L i && (Region.ready .any ⟨l⟩ L).contains i) = true := by kernel_rfl) (hd : d ≠ tt := by decide)
    (h : HT P l tt hb m (L.setIfInBounds i true) ⟨(d, v) :: s, b, n, t, e⟩ Q) : HT P l tt hb (m + 1) L ⟨s, b, n, t, e⟩ Q := by
  simp only [Bool.and_eq_true] at hc; exact ⟨h0, .inr (.inl ⟨i, d, _, v, ho, hod, hd, Nat.le_of_ble_eq_true hdn, hg, hx, hc.1.1, hc.1.2, hc.2, h⟩)⟩
theorem HT.sk {P : Program} {l : List Oper} {tt i m d : Nat} {o : Oper} {hb : St → Prop} {L : Array Bool} {Q : St → Prop} (h0 : hb ⟨s, b, n, t, e⟩) (ho : l[i]? = some o) (h : HT P l tt hb m (L.setIfInBounds i true) ⟨(d, .lit undef) :: s, b, n, t, e⟩ Q) (hod : o.dst = some d := by exact rfl) (hdn : Nat.blt d t = true := by exact rfl) (hg : guardGo (dstsOf ⟨l⟩) ⟨s, b, n, t, e⟩ o.guard = some false := by exact rfl) (hc : (Region.noSelect ⟨l⟩ && Region.free .any ⟨l⟩ L i && (Region.ready .any ⟨l⟩ L).contains i) = true := by kernel_rfl) (hd : d ≠ tt := by decide) : HT P l tt hb (m + 1) L ⟨s, b, n, t, e⟩ Q := by
  simp only [Bool.and_eq_true] at hc; exact ⟨h0, .inr (.inr ⟨i, d, _, ho, hod, hd, Nat.le_of_ble_eq_true hdn, hg, hc.1.1, hc.1.2, hc.2, h⟩)⟩
theorem HT.ex {P : Program} {l : List Oper} {tt i m d ty k : Nat} {g : Option (Nat × Bool)} {hb : St → Prop} {L : Array Bool} {Q : St → Prop} {x : Operand} {v : AV} {vs : List AV} {pos : String} {aft : Array Edge} (h0 : hb ⟨s, b, n, t, e⟩) (ho : l[i]? = some ⟨some d, .extract x k, ty, pos, aft, g⟩) (hx : opv s x = some (.tup vs) := by exact rfl) (hv : vs[k]? = some v := by exact rfl) (hdn : Nat.blt d t = true := by exact rfl) (hg : guardGo (dstsOf ⟨l⟩) ⟨s, b, n, t, e⟩ g = some true := by exact rfl) (hc : (Region.noSelect ⟨l⟩ && Region.free .any ⟨l⟩ L i && (Region.ready .any ⟨l⟩ L).contains i) = true := by kernel_rfl) (hd : d ≠ tt := by decide)
    (h : HT P l tt hb m (L.setIfInBounds i true) ⟨(d, v) :: s, b, n, t, e⟩ Q) : HT P l tt hb (m + 1) L ⟨s, b, n, t, e⟩ Q := HT.pu h0 ho rfl (pureW_ex hx hv) hdn hg hc hd h
theorem HT.pk {P : Program} {l : List Oper} {tt i m d ty : Nat} {g : Option (Nat × Bool)} {hb : St → Prop} {L : Array Bool} {Q : St → Prop} {c x y : Operand} {u : Bool} {v : AV} {pos : String} {aft : Array Edge} (h0 : hb ⟨s, b, n, t, e⟩) (ho : l[i]? = some ⟨some d, .pick c x y, ty, pos, aft, g⟩) (hz : opv s c = some (.lit (.bool u)) := by exact rfl) (hx : opv s (if u then x else y) = some v := by exact rfl) (hdn : Nat.blt d t = true := by exact rfl) (hg : guardGo (dstsOf ⟨l⟩) ⟨s, b, n, t, e⟩ g = some true := by exact rfl) (hc : (Region.noSelect ⟨l⟩ && Region.free .any ⟨l⟩ L i && (Region.ready .any ⟨l⟩ L).contains i) = true := by kernel_rfl) (hd : d ≠ tt := by decide)
    (h : HT P l tt hb m (L.setIfInBounds i true) ⟨(d, v) :: s, b, n, t, e⟩ Q) : HT P l tt hb (m + 1) L ⟨s, b, n, t, e⟩ Q := HT.pu h0 ho rfl (pureW_pk hz hx) hdn hg hc hd h
theorem HT.fa {P : Program} {l : List Oper} {tt i m d ty : Nat} {g : Option (Nat × Bool)} {hb : St → Prop} {L : Array Bool} {Q : St → Prop} {st : TypeId} {x : Operand} {f off ft : Nat} {v u : AV} {pos : String} {aft : Array Edge} (h0 : hb ⟨s, b, n, t, e⟩) (hf : fieldOf P st f = some (off, ft)) (hz : P.cellsOf ft ≠ 0) (ho : l[i]? = some ⟨some d, .fieldAddr st x f, ty, pos, aft, g⟩) (hx : opv s x = some v := by exact rfl) (hu : shift off v = some u := by exact rfl) (hdn : Nat.blt d t = true := by exact rfl) (hg : guardGo (dstsOf ⟨l⟩) ⟨s, b, n, t, e⟩ g = some true := by exact rfl) (hc : (Region.noSelect ⟨l⟩ && Region.free .any ⟨l⟩ L i && (Region.ready .any ⟨l⟩ L).contains i) = true := by kernel_rfl) (hd : d ≠ tt := by decide)
    (h : HT P l tt hb m (L.setIfInBounds i true) ⟨(d, u) :: s, b, n, t, e⟩ Q) : HT P l tt hb (m + 1) L ⟨s, b, n, t, e⟩ Q := HT.pu h0 ho rfl (pureW_fa hf hz hx hu) hdn hg hc hd h
theorem HT.mv {P : Program} {l : List Oper} {tt i m d ty : Nat} {g : Option (Nat × Bool)} {hb : St → Prop} {L : Array Bool} {Q : St → Prop} {x : Operand} {v : AV} {pos : String} {aft : Array Edge} (h0 : hb ⟨s, b, n, t, e⟩) (ho : l[i]? = some ⟨some d, .move x, ty, pos, aft, g⟩) (hx : opv s x = some v := by exact rfl) (hdn : Nat.blt d t = true := by exact rfl) (hg : guardGo (dstsOf ⟨l⟩) ⟨s, b, n, t, e⟩ g = some true := by exact rfl) (hc : (Region.noSelect ⟨l⟩ && Region.free .any ⟨l⟩ L i && (Region.ready .any ⟨l⟩ L).contains i) = true := by kernel_rfl) (hd : d ≠ tt := by decide)
    (h : HT P l tt hb m (L.setIfInBounds i true) ⟨(d, v) :: s, b, n, t, e⟩ Q) : HT P l tt hb (m + 1) L ⟨s, b, n, t, e⟩ Q := HT.pu h0 ho rfl (pureW_mv hx) hdn hg hc hd h
theorem HT.nil {P : Program} {l : List Oper} {t : Nat} {hb : St → Prop} {L : Array Bool} {σ : St} {Q : St → Prop} (h0 : hb σ) (hr : Region.ready .any ⟨l⟩ L = []) (h : Q σ) : HT P l t hb 0 L σ Q := ⟨h0, hr, h⟩
def hck8 (t tp d0 d1 d2 d3 : Nat) : Bool := Nat.blt d0 t && Nat.blt d1 t && Nat.blt d2 t && Nat.blt d3 t && !Nat.beq d0 tp && !Nat.beq d1 tp && !Nat.beq d2 tp && !Nat.beq d3 tp
theorem hck8_spec {t tp d0 d1 d2 d3 : Nat} (h : hck8 t tp d0 d1 d2 d3 = true) : (d0 < t ∧ d1 < t ∧ d2 < t ∧ d3 < t) ∧ d0 ≠ tp ∧ d1 ≠ tp ∧ d2 ≠ tp ∧ d3 ≠ tp := by
  simp only [hck8, Bool.and_eq_true, Bool.not_eq_true', Nat.blt_eq] at h; obtain ⟨⟨⟨⟨⟨⟨⟨c1, c2⟩, c3⟩, c4⟩, c5⟩, c6⟩, c7⟩, c8⟩ := h; exact ⟨⟨c1, c2, c3, c4⟩, Nat.ne_of_beq_eq_false c5, Nat.ne_of_beq_eq_false c6, Nat.ne_of_beq_eq_false c7, Nat.ne_of_beq_eq_false c8⟩
theorem Ev.rhm {l : List Oper} {id f0 f1 f2 f3 d0 d1 d2 d3 st ft r m : Nat} {o0 o1 : Oper} {L0 L1 L2 L3 L4 : Array Bool} (tp : Nat) (F : FreeP P l f0 f1 f2 f3 d0 d1 d2 d3 o0 o1 st ft m L0 L1 L2 L3) (h4 : L3.setIfInBounds f3 true = L4) (ho : o0.op = .move (.tmp tp)) (hx : find s tp = some (.adr r 0 0)) (hm : P.follows .mixedOrders = true) (hck : hck8 t tp d0 d1 d2 d3 = true)
    (h : ∀ Kt : St → Prop, (∀ σ', Q .normal σ' → Kt σ') → HT P l tp (fun _ => True) m L4 ⟨(d3, .adr r 0 0) :: (d2, .adr r 0 0) :: (d1, .adr r 0 0) :: (d0, .adr r 0 0) :: s, b, n, t, e⟩ Kt) : Ev P (.region id ⟨l⟩ true) ⟨s, b, n, t, e⟩ Q := by
  obtain ⟨⟨c1, c2, c3, c4⟩, c5⟩ := hck8_spec hck; subst h4; refine Ev.heldA F (fun _ => True) hm c1 c2 c3 c4 c5 (fun C E X a hr => ?_) (h _ fun _ h => h); have hv := hr.slots tp _ hx; have hv' := hv; simp only [FV] at hv'; obtain ⟨_, a0, _, _, hxe⟩ := hv'; refine ⟨fun _ => True, _, trivial, fun a' o w ht hop _ => ?_, by rw [hxe] at hv; exact hv, fun _ _ _ _ _ _ _ => trivial⟩; have hg := getD_of ht; rw [hxe] at hg
  unfold execOp
  simp only [hop, ho, Act.eval, hg]; rfl
theorem Ev.shm {l : List Oper} {id f0 f1 f2 f3 d0 d1 d2 d3 st ft r m : Nat} {o0 o1 : Oper} {L0 L1 L2 L3 L4 : Array Bool} {y : Code} (tp : Nat) (F : FreeP P l f0 f1 f2 f3 d0 d1 d2 d3 o0 o1 st ft m L0 L1 L2 L3) (h4 : L3.setIfInBounds f3 true = L4) (ho : o0.op = .move (.tmp tp)) (hx : find s tp = some (.adr r 0 0)) (hm : P.follows .mixedOrders = true) (hck : hck8 t tp d0 d1 d2 d3 = true)
    (h : ∀ Kt : St → Prop, (∀ σ', Ev P y σ' Q → Kt σ') → HT P l tp (fun _ => True) m L4 ⟨(d3, .adr r 0 0) :: (d2, .adr r 0 0) :: (d1, .adr r 0 0) :: (d0, .adr r 0 0) :: s, b, n, t, e⟩ Kt) : Ev P (.seq (.region id ⟨l⟩ true) y) ⟨s, b, n, t, e⟩ Q :=
  Ev.seq (Ev.rhm tp F h4 ho hx hm hck fun Kt hK => h Kt fun σ' h' => hK σ' h')
theorem Ev.rtr {l : List Oper} {id m : Nat} {L0 : Array Bool} (tp : Nat) (hlen : l.length = m) (h4 : Array.replicate l.length false = L0) (hm : P.follows .mixedOrders = true)
    (h : ∀ Kt : St → Prop, (∀ σ', Q .normal σ' → Kt σ') → HT P l tp (fun _ => True) m L0 ⟨s, b, n, t, e⟩ Kt) : Ev P (.region id ⟨l⟩ true) ⟨s, b, n, t, e⟩ Q := by
  subst h4 hlen; intro C E X a hr
  refine wp_mono (wp_region_held (Q := nrmE fun a' w' => ∃ E' X' σ', E'.w = w' ∧ Rel C E' X' σ' a' ∧ Q .normal σ') (S := fun _ => True) hm ?_) (fun e' a' w' hq => by
    obtain ⟨rfl, E', X', σ', h1, h2, h3⟩ := hq
    exact ⟨E', X', σ', h1, h2, h3⟩)
  exact held_seq (S := fun _ => True) (hb := fun _ => True) (v0 := a.tmps[tp]?) (fun _ _ _ _ _ _ _ => trivial) _ _ { E with w := E.w.drew } X _ a hr.drew (h _ fun _ h => h) rfl
theorem Ev.str {l : List Oper} {id m : Nat} {L0 : Array Bool} {y : Code} (tp : Nat) (hlen : l.length = m) (h4 : Array.replicate l.length false = L0) (hm : P.follows .mixedOrders = true)
    (h : ∀ Kt : St → Prop, (∀ σ', Ev P y σ' Q → Kt σ') → HT P l tp (fun _ => True) m L0 ⟨s, b, n, t, e⟩ Kt) : Ev P (.seq (.region id ⟨l⟩ true) y) ⟨s, b, n, t, e⟩ Q :=
  Ev.seq (Ev.rtr tp hlen h4 hm fun Kt hK => h Kt fun σ' h' => hK σ' h')
end
end Go.AM
