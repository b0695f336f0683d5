/-
  Part 13 of the proof: the abstract machine, proved sound over the model.
  Conditions: none.
-/
import Derived.OrdersHeld
import Derived.Test.YtlpgjlnkfgacbaaGreatDoorX12
set_option linter.unusedVariables false
set_option linter.unusedSimpArgs false
set_option linter.unusedSectionVars false
namespace Go.AM
def nrmE (Fin : Act → World → Prop) : Exit → Act → World → Prop := fun e a w => e = .normal ∧ Fin a w
theorem put_tmp {a : Act} {dst : Option Nat} {v : Value} {t : Nat} (h : dst ≠ some t) : (a.put dst v).tmps[t]? = a.tmps[t]? := by
  cases dst with
  | none => rfl
  | some d =>
    have hd : d ≠ t := fun e => h (by rw [e])
    show (a.tmps.setIfInBounds d v)[t]? = _
    rw [Array.getElem?_setIfInBounds, if_neg hd]
theorem wp_tmp {P : Program} {o : Oper} {a : Act} {w : World} {next : Act → World → Prop} {Fin Fin' : Act → World → Prop} {t : Nat} (hd : o.dst ≠ some t) (h : o.wp P a w next (nrmE Fin)) :
    o.wp P a w (fun a' w' => next a' w' ∧ a'.tmps[t]? = a.tmps[t]?) (nrmE Fin') := by
  unfold Oper.wp at h ⊢
  generalize (execOp a.eval o).run P w = r at *
  cases r with
  | ok n w' =>
    cases n <;> simp only [Oper.upon] at h ⊢
    case value u => exact ⟨h, put_tmp hd⟩
    case skip => exact ⟨h, put_tmp hd⟩
    case defer d => exact ⟨h, put_tmp (a := { a with defers := d :: a.defers }) hd⟩
    case enter f args =>
      refine Calls.mono h fun e w'' he => ?_
      cases e with
      | returned u => exact ⟨he, put_tmp hd⟩
      | panicked c => exact absurd he.1 (by intro h; cases h)
      | outgrown =>
        obtain ⟨a0, w0, h0, _⟩ := he
        cases h0
    case row row args => exact Rows.mono h fun u w'' he => ⟨he, put_tmp hd⟩
  | halt x w' =>
    cases x <;> simp only [Oper.upon] at h ⊢
    case panic u => exact absurd h.1 (by intro h; cases h)
theorem op_of_seq {P : Program} {l : List Oper} {σ : St} {o : Oper} {Qs : St → Prop} {C : Ctx} {E : Env} {X : Nat → List Value} {a : Act} {i t : Nat} {K Fin : Act → World → Prop} (h : SeqL P ⟨l⟩ [o] σ Qs) (hr : Rel C E X σ a) (ho : l[i]? = some o) (hd : o.dst ≠ some t)
    (hK : ∀ E' X' σ' a', Rel C E' X' σ' a' → Qs σ' → a'.tmps[t]? = a.tmps[t]? → K a' E'.w) : wpOp P ⟨l⟩ (nrmE Fin) i K a E.w := by
  have h1 := h C E X a hr (nrmE fun a' w' => ∃ E' X' σ', E'.w = w' ∧ Rel C E' X' σ' a' ∧ Qs σ') (fun E' X' σ' a' h1 h2 => ⟨rfl, E', X', σ', rfl, h1, h2⟩); rw [FN] at h1
  have ho' : (⟨l⟩ : Array Oper)[i]? = some o := by rw [List.getElem?_toArray]; exact ho
  have hnx : ∀ a' w', wpL P ⟨l⟩ (nrmE fun a' w' => ∃ E' X' σ', E'.w = w' ∧ Rel C E' X' σ' a' ∧ Qs σ') [] a' w' ∧ a'.tmps[t]? = a.tmps[t]? → K a' w' := by
    rintro a' w' ⟨h2, h3⟩; rw [wpL_nil] at h2; obtain ⟨_, E', X', σ', rfl, h4, h5⟩ := h2; exact hK E' X' σ' a' h4 h5 h3
  unfold wpOp
  rw [ho']
  simp only
  split at h1
  · rename_i hw
    rw [if_pos hw]; exact .inl (Oper.wp_mono (fun a' w' h2 => hnx a' w' h2) (wp_tmp hd h1))
  rename_i hw
  rw [if_neg hw]; exact hnx _ _ ⟨h1, put_tmp hd⟩
def PureW (P : Program) (σ : St) (o : Oper) (v : AV) : Prop :=
  ∀ C E X a, Rel C E X σ a → ∃ y, FV E v y ∧ ∀ w : World, (execOp a.eval o).run P w = .ok (.value y) w
def HT (P : Program) (l : List Oper) (t : Nat) (hb : St → Prop) : Nat → Array Bool → St → (St → Prop) → Prop
  | 0, L, σ, Q => hb σ ∧ Region.ready .any ⟨l⟩ L = [] ∧ Q σ
  | n + 1, L, σ, Q => hb σ ∧ ((Region.ready .any ⟨l⟩ L ≠ [] ∧ ∀ i ∈ Region.ready .any ⟨l⟩ L, ∃ o, l[i]? = some o ∧ o.dst ≠ some t ∧ SeqL P ⟨l⟩ [o] σ fun σ' => HT P l t hb n (L.setIfInBounds i true) σ' Q) ∨
      (∃ (i d : Nat) (o : Oper) (v : AV), l[i]? = some o ∧ o.dst = some d ∧ d ≠ t ∧ d < σ.nt ∧ B0 (B8 ⟨l⟩) σ o.guard = some true ∧ PureW P σ o v ∧ Region.noSelect ⟨l⟩ = true ∧ Region.free .any ⟨l⟩ L i = true ∧ (Region.ready .any ⟨l⟩ L).contains i = true ∧ HT P l t hb n (L.setIfInBounds i true) (σ.put (some d) v) Q) ∨
      ∃ (i d : Nat) (o : Oper), l[i]? = some o ∧ o.dst = some d ∧ d ≠ t ∧ d < σ.nt ∧ B0 (B8 ⟨l⟩) σ o.guard = some false ∧ Region.noSelect ⟨l⟩ = true ∧ Region.free .any ⟨l⟩ L i = true ∧ (Region.ready .any ⟨l⟩ L).contains i = true ∧ HT P l t hb n (L.setIfInBounds i true) (σ.put (some d) (.lit undef)) Q)
theorem HT.hb {P : Program} {l : List Oper} {t : Nat} {hb : St → Prop} {n : Nat} {L : Array Bool} {σ : St} {Q : St → Prop} (h : HT P l t hb n L σ Q) : hb σ := by
  cases n with
  | zero => exact h.1
  | succ _ => exact h.1
theorem take_one {P : Program} {l : List Oper} {S : World → Prop} {Fin : Act → World → Prop} {fuel i d : Nat} {L : Array Bool} {C : Ctx} {E : Env} {X : Nat → List Value} {σ : St} {a : Act} {o : Oper} {v : AV} {y : Value} (hr : Rel C E X σ a) (ho : l[i]? = some o) (hd : o.dst = some d) (hdn : d < σ.nt) (hg : B0 (B8 ⟨l⟩) σ o.guard = some true)
    (h1 : Region.noSelect ⟨l⟩ = true) (h2 : Region.free .any ⟨l⟩ L i = true) (h3 : (Region.ready .any ⟨l⟩ L).contains i = true) (hS : S E.w) (hy : ∀ w, S w → (execOp a.eval o).run P w = .ok (.value y) w) (hv : FV E v y)
    (h : Rel C E X (σ.put (some d) v) (a.put (some d) y) → wpAnyH P .any ⟨l⟩ (nrmE Fin) S fuel (L.setIfInBounds i true) (a.put (some d) y) E.w) : wpAnyH P .any ⟨l⟩ (nrmE Fin) S (fuel + 1) L a E.w := by
  have ho' : (⟨l⟩ : Array Oper)[i]? = some o := by rw [List.getElem?_toArray]; exact ho
  refine wpAnyH_take (v := y) ho' h1 h2 h3 (fun c a w hq => absurd hq.1 (by intro h; cases h)) (.inl ⟨hr.guard hg, hy⟩) hS ?_; rw [hd]; exact h (hr.put (some d) (fun d' e => by cases e; exact hdn) hv)
theorem held_seq {P : Program} {l : List Oper} {t : Nat} {hb : St → Prop} {S : World → Prop} {C : Ctx} {Qn : St → Prop} {v0 : Option Value} (hS : ∀ E X σ a, Rel C E X σ a → hb σ → a.tmps[t]? = v0 → S E.w) :
    ∀ (n : Nat) (L : Array Bool) (E : Env) (X : Nat → List Value) (σ : St) (a : Act), Rel C E X σ a → HT P l t hb n L σ Qn → a.tmps[t]? = v0 →
      wpAnyH P .any ⟨l⟩ (nrmE fun a' w' => ∃ E' X' σ', E'.w = w' ∧ Rel C E' X' σ' a' ∧ Qn σ') S n L a E.w
  | 0, L, E, X, σ, a, hr, h, ht => ⟨h.2.1, rfl, E, X, σ, rfl, hr, h.2.2⟩
  | n + 1, L, E, X, σ, a, hr, h, ht => by
    obtain ⟨hb0, ⟨hne, hs⟩ | ⟨i, d, o, v, ho, hdst, hdt, hdn, hg, hx, hsel, hf, hc, hnext⟩ | ⟨i, d, o, ho, hdst, hdt, hdn, hg, hsel, hf, hc, hnext⟩⟩ := h
    · refine wpAnyH_all rfl hne fun i hi => ?_; obtain ⟨o, ho, hd, hs⟩ := hs i hi; refine op_of_seq hs hr ho hd fun E' X' σ' a' hr' hq ht' => ?_; have ht2 := ht'.trans ht; exact ⟨hS _ _ _ _ hr' hq.hb ht2, held_seq hS n _ E' X' σ' a' hr' hq ht2⟩
    · obtain ⟨y, hv, hrun⟩ := hx C E X a hr; exact take_one hr ho hdst hdn hg hsel hf hc (hS _ _ _ _ hr hb0 ht) (fun w _ => hrun w) hv fun hr1 => held_seq hS n _ E X _ _ hr1 hnext ((put_tmp (fun e => hdt (by simpa using e))).trans ht)
    · have ho' : (⟨l⟩ : Array Oper)[i]? = some o := by rw [List.getElem?_toArray]; exact ho
      refine wpAnyH_take (v := undef) ho' hsel hf hc (fun c a w hq => absurd hq.1 (by intro h; cases h)) (.inr ⟨hr.guard hg, rfl⟩) (hS _ _ _ _ hr hb0 ht) ?_; rw [hdst]; exact held_seq hS n _ E X _ _ (hr.put (some d) (fun d' e => by cases e; exact hdn) (by simp [FV])) hnext ((put_tmp (fun e => hdt (by simpa using e))).trans ht)
structure FreeP (P : Program) (l : List Oper) (f0 f1 f2 f3 d0 d1 d2 d3 : Nat) (o0 o1 : Oper) (st ft n : Nat) (L0 L1 L2 L3 : Array Bool) : Prop where
  h0 : l[f0]? = some o0
  e0 : o0.dst = some d0 ∧ o0.guard = none
  h1 : l[f1]? = some o1
  e1 : o1.dst = some d1 ∧ o1.guard = none ∧ o1.op = o0.op
  h2 : ∃ ty pos aft, l[f2]? = some ⟨some d2, .nilCheck (.tmp d1), ty, pos, aft, none⟩
  h3 : ∃ ty pos aft, l[f3]? = some ⟨some d3, .fieldAddr st (.tmp d2) 0, ty, pos, aft, none⟩
  hf : Br P st 0 = some (0, ft)
  hz : P.cellsOf ft ≠ 0
  len : l.length = n + 1 + 1 + 1 + 1
  sel : Region.noSelect ⟨l⟩ = true
  l0 : Array.replicate l.length false = L0
  l1 : L0.setIfInBounds f0 true = L1
  l2 : L1.setIfInBounds f1 true = L2
  l3 : L2.setIfInBounds f2 true = L3
  k0 : (Region.free .any ⟨l⟩ L0 f0 && (Region.ready .any ⟨l⟩ L0).contains f0 && Region.free .any ⟨l⟩ L1 f1 && (Region.ready .any ⟨l⟩ L1).contains f1 && Region.free .any ⟨l⟩ L2 f2 && (Region.ready .any ⟨l⟩ L2).contains f2 && Region.free .any ⟨l⟩ L3 f3 && (Region.ready .any ⟨l⟩ L3).contains f3) = true
theorem exec_fa {P : Program} {a : Act} {w : World} {o : Oper} {x : Operand} {ad : Addr} {st ft : Nat} (ho : o.op = .fieldAddr st x 0) (hf : Br P st 0 = some (0, ft)) (hz : P.cellsOf ft ≠ 0) (he : a.eval x = .pointer (some ad)) : (execOp a.eval o).run P w = .ok (.value (.pointer (some (ad.add 0)))) w := by
  unfold Br at hf
  split at hf
  · rename_i fs hus
    simp only [Option.map_eq_some_iff] at hf; obtain ⟨fl, hfl, hh⟩ := hf; simp only [Prod.mk.injEq] at hh; obtain ⟨h3, rfl⟩ := hh
    cases hi : P.info? fl.type with
    | none => simp [Program.cellsOf, hi] at hz
    | some i =>
      rw [CM hi] at hz
      unfold execOp
      simp [ho, Instr.fieldAt, run_underlying hus, hfl, he, Instr.sureAddr, fieldPlace, D2 hi, hz, h3]
  cases hf
section
variable {P : Program} {s : List (Nat × AV)} {b : List (Nat × Obj)} {n t e : Nat} {Q : Exit → St → Prop}
theorem AN {P : Program} {l : List Oper} {t i m : Nat} {hb : St → Prop} {L : Array Bool} {σ : St} {Q : St → Prop} {o : Oper} (h0 : hb σ) (ho : l[i]? = some o) (h : SeqL P ⟨l⟩ [o] σ fun σ' => HT P l t hb m (L.setIfInBounds i true) σ' Q) (hr : Region.ready .any ⟨l⟩ L = [i] := by kernel_rfl) (hd : o.dst ≠ some t := by decide) : HT P l t hb (m + 1) L σ Q :=
  ⟨h0, .inl ⟨by rw [hr]; simp, fun j hj => by rw [hr] at hj; obtain rfl := List.mem_singleton.1 hj; exact ⟨o, ho, hd, h⟩⟩⟩
theorem Dz {P : Program} {l : List Oper} {t i j m : Nat} {hb : St → Prop} {L : Array Bool} {σ : St} {Q : St → Prop} {o o' : Oper} (h0 : hb σ) (ho : l[i]? = some o) (ho' : l[j]? = some o') (h : SeqL P ⟨l⟩ [o] σ fun σ' => HT P l t hb m (L.setIfInBounds i true) σ' Q) (h' : SeqL P ⟨l⟩ [o'] σ fun σ' => HT P l t hb m (L.setIfInBounds j true) σ' Q)
    (hr : Region.ready .any ⟨l⟩ L = [i, j] := by kernel_rfl) (hd : o.dst ≠ some t := by decide) (hd' : o'.dst ≠ some t := by decide) : HT P l t hb (m + 1) L σ Q :=
  ⟨h0, .inl ⟨by rw [hr]; simp, fun k hk => by
    rw [hr] at hk; simp only [List.mem_cons, List.not_mem_nil, or_false] at hk
    rcases hk with rfl | rfl
    · exact ⟨o, ho, hd, h⟩
    · exact ⟨o', ho', hd', h'⟩⟩⟩
theorem pureW_mv {x : Operand} {v : AV} {d : Option Nat} {ty : Nat} {pos : String} {aft : Array Edge} {g : Option (Nat × Bool)} (hx : Ba s x = some v) : PureW P ⟨s, b, n, t, e⟩ ⟨d, .move x, ty, pos, aft, g⟩ v := by
  intro C E X a hr; have hv := hr.ev x; rw [AS hx] at hv; refine ⟨_, hv, fun w => ?_⟩
  unfold execOp
  simp
theorem pureW_fa {st : TypeId} {x : Operand} {f off ft : Nat} {v u : AV} {d : Option Nat} {ty : Nat} {pos : String} {aft : Array Edge} {g : Option (Nat × Bool)} (hf : Br P st f = some (off, ft)) (hz : P.cellsOf ft ≠ 0) (hx : Ba s x = some v) (hu : shift off v = some u) : PureW P ⟨s, b, n, t, e⟩ ⟨d, .fieldAddr st x f, ty, pos, aft, g⟩ u := by
  intro C E X a hr; have hv := hr.ev x; rw [AS hx] at hv; obtain ⟨ad, hxe, hfv⟩ := FV.shift hu hv; refine ⟨_, hfv, fun w => ?_⟩
  unfold Br at hf
  split at hf
  · rename_i fs hus
    simp only [Option.map_eq_some_iff] at hf; obtain ⟨fl, hfl, he⟩ := hf; simp only [Prod.mk.injEq] at he; obtain ⟨rfl, rfl⟩ := he
    cases hi : P.info? fl.type with
    | none => simp [Program.cellsOf, hi] at hz
    | some i =>
      rw [CM hi] at hz
      unfold execOp
      simp [Instr.fieldAt, run_underlying hus, hfl, hxe, Instr.sureAddr, fieldPlace, D2 hi, hz]
  cases hf
theorem HT.three {P : Program} {l : List Oper} {t i j k m : Nat} {hb : St → Prop} {L : Array Bool} {σ : St} {Q : St → Prop} {o o' o'' : Oper} (h0 : hb σ) (ho : l[i]? = some o) (ho' : l[j]? = some o') (ho'' : l[k]? = some o'') (h : SeqL P ⟨l⟩ [o] σ fun σ' => HT P l t hb m (L.setIfInBounds i true) σ' Q) (h' : SeqL P ⟨l⟩ [o'] σ fun σ' => HT P l t hb m (L.setIfInBounds j true) σ' Q) (h'' : SeqL P ⟨l⟩ [o''] σ fun σ' => HT P l t hb m (L.setIfInBounds k true) σ' Q)
    (hr : Region.ready .any ⟨l⟩ L = [i, j, k] := by kernel_rfl) (hd : o.dst ≠ some t := by decide) (hd' : o'.dst ≠ some t := by decide) (hd'' : o''.dst ≠ some t := by decide) : HT P l t hb (m + 1) L σ Q :=
  ⟨h0, .inl ⟨by rw [hr]; simp, fun q hq => by
    rw [hr] at hq; simp only [List.mem_cons, List.not_mem_nil, or_false] at hq
    rcases hq with rfl | rfl | rfl
    · exact ⟨o, ho, hd, h⟩
    · exact ⟨o', ho', hd', h'⟩
    · exact ⟨o'', ho'', hd'', h''⟩⟩⟩
theorem Cw {P : Program} {l : List Oper} {t : Nat} {hb : St → Prop} {L : Array Bool} {σ : St} {Q : St → Prop} (h0 : hb σ) (hr : Region.ready .any ⟨l⟩ L = []) (h : Q σ) : HT P l t hb 0 L σ Q := ⟨h0, hr, h⟩
end
def PureS (P : Program) (σ : St) (o : Oper) (v : AV) : Prop :=
  ∀ C E X a, Rel C E X σ a → ∃ y, FV E v y ∧ ∀ w : World, (∀ b, E.S b → w.heap[b]? = E.w.heap[b]?) → (execOp a.eval o).run P w = .ok (.value y) w
inductive HP (P : Program) (l : List Oper) : Nat → Array Bool → St → (St → Prop) → Prop
  | done {n : Nat} {L : Array Bool} {σ : St} {Q : St → Prop} (h : HT P l 1000000 (fun _ => True) n L σ Q) : HP P l n L σ Q
  | take {n i d : Nat} {L L' : Array Bool} {σ : St} {Q : St → Prop} {o : Oper} {v : AV} (ho : l[i]? = some o) (hd : o.dst = some d) (hdn : d < σ.nt) (hdt : d ≠ 1000000) (hg : B0 (B8 ⟨l⟩) σ o.guard = some true) (hc : (Region.noSelect ⟨l⟩ && Region.free .any ⟨l⟩ L i && (Region.ready .any ⟨l⟩ L).contains i) = true) (hL : L.setIfInBounds i true = L') (hp : PureS P σ o v) (h : HP P l n L' (σ.put (some d) v) Q) : HP P l (n + 1) L σ Q
theorem pre_seq {P : Program} {l : List Oper} {C : Ctx} {E : Env} {X : Nat → List Value} {Qn : St → Prop} (hS : ∀ E' X' σ' a', Rel C E' X' σ' a' → ∀ b, E.S b → E'.w.heap[b]? = E.w.heap[b]?) {n : Nat} {L : Array Bool} {σ : St} (h : HP P l n L σ Qn) :
    ∀ (a : Act), Rel C E X σ a → wpAnyH P .any ⟨l⟩ (nrmE fun a' w' => ∃ E' X' σ', E'.w = w' ∧ Rel C E' X' σ' a' ∧ Qn σ') (fun w => ∀ b, E.S b → w.heap[b]? = E.w.heap[b]?) n L a E.w := by
  induction h with
  | done h =>
    intro a hr; exact held_seq (hb := fun _ => True) (v0 := a.tmps[1000000]?) (fun E' X' σ' a' h1 _ _ => hS E' X' σ' a' h1) _ _ E X _ a hr h rfl
  | take ho hd hdn hdt hg hc hL hp h ih =>
    intro a hr; subst hL; simp only [Bool.and_eq_true] at hc; obtain ⟨y, hy, hrun⟩ := hp C E X a hr; exact take_one hr ho hd hdn hg hc.1.1 hc.1.2 hc.2 (fun b _ => rfl) hrun hy fun hr1 => ih _ hr1
def Ctx.at (C : Ctx) (E : Env) (σ : St) : Ctx := { C with w0 := E.w, own := fun b => ∃ r o, Aw σ.objs r = some o ∧ Bl (E.H r) = some b, S0 := E.S }
theorem Rel.rebase {C : Ctx} {E : Env} {X : Nat → List Value} {σ : St} {a : Act} (h : Rel C E X σ a) : Rel (C.at E σ) E X σ a :=
  ⟨h.slots, h.size, h.defers, h.objs, h.apart, h.stay, h.fresh, Keep.refl _ _, fun r o b h1 h2 => .inl ⟨r, o, h1, h2⟩, h.env, h.envD, fun b hb => hb, fun b hb => .inl hb, h.envk, h.glob⟩
theorem Rel.unbase {C : Ctx} {E E' : Env} {X X' : Nat → List Value} {σ σ' : St} {a a' : Act} (h : Rel C E X σ a) (h' : Rel (C.at E σ) E' X' σ' a') : Rel C E' X' σ' a' := by
  have hown : ∀ b, (C.at E σ).own b → C.own b ∨ C.w0.heap.size ≤ b := fun b ⟨r, o, h1, h2⟩ => h.mine r o b h1 h2; have hsz := h.kept.size; refine ⟨h'.slots, h'.size, h'.defers, h'.objs, h'.apart, h'.stay, h'.fresh, ⟨h'.kept.os.trans h.kept.os, h.kept.tape.trans h'.kept.tape, h'.kept.output.trans h.kept.output, Nat.le_trans hsz h'.kept.size, fun b hb hn => ?_⟩, fun r o b h1 h2 => ?_, h'.env, h'.envD, fun b hb => h'.base b (h.base b hb), fun b hb => ?_, h'.envk, h'.glob⟩
  · refine (h'.kept.block b (Nat.lt_of_lt_of_le hb hsz) fun ho => ?_).trans (h.kept.block b hb hn)
    rcases hown b ho with h1 | h1
    · exact hn h1
    omega
  · rcases h'.mine r o b h1 h2 with h3 | h3
    · exact hown b h3
    exact .inr (Nat.le_trans hsz h3)
  rcases h'.grow b hb with h3 | h3 | h3
  · exact h.grow b h3
  · exact .inr (.inl (Nat.le_trans hsz h3))
  rcases hown b h3 with h4 | h4
  · exact .inr (.inr h4)
  exact .inr (.inl h4)
theorem Rel.at_keeps {C : Ctx} {E E' : Env} {X X' : Nat → List Value} {σ σ' : St} {a a' : Act} (h : Rel C E X σ a) (h' : Rel (C.at E σ) E' X' σ' a') : ∀ b, E.S b → E'.w.heap[b]? = E.w.heap[b]? := fun b hb =>
  h'.kept.block b (h.stay b hb).1 fun ⟨r, o, h1, h2⟩ => (h.stay b hb).2 r o h1 h2
section
variable {P : Program} {s : List (Nat × AV)} {b : List (Nat × Obj)} {n t e : Nat} {Q : Exit → St → Prop}
theorem Ev.rtp {l : List Oper} {id m : Nat} {L0 : Array Bool} (hlen : l.length = m) (h4 : Array.replicate l.length false = L0) (hm : P.follows .mixedOrders = true)
    (h : ∀ Kt : St → Prop, (∀ σ', Q .normal σ' → Kt σ') → HP P l m L0 ⟨s, b, n, t, e⟩ Kt) : Ev P (.region id ⟨l⟩ true) ⟨s, b, n, t, e⟩ Q := by
  subst h4 hlen; intro C E X a hr; have hrd := hr.drew
  refine wp_mono (wp_region_held (Q := nrmE fun a' w' => ∃ E' X' σ', E'.w = w' ∧ Rel (C.at { E with w := E.w.drew } ⟨s, b, n, t, e⟩) E' X' σ' a' ∧ Q .normal σ') (S := fun w => ∀ b, E.S b → w.heap[b]? = E.w.drew.heap[b]?) hm ?_) (fun e' a' w' hq => by
    obtain ⟨rfl, E', X', σ', h1, h2, h3⟩ := hq
    exact ⟨E', X', σ', h1, hrd.unbase h2, h3⟩)
  exact pre_seq (E := { E with w := E.w.drew }) (fun E' X' σ' a' h1 => hrd.at_keeps h1) (h _ fun _ h => h) a hrd.rebase
theorem Ev.stp {l : List Oper} {id m : Nat} {L0 : Array Bool} {y : Code} (hlen : l.length = m) (h4 : Array.replicate l.length false = L0) (hm : P.follows .mixedOrders = true)
    (h : ∀ Kt : St → Prop, (∀ σ', Ev P y σ' Q → Kt σ') → HP P l m L0 ⟨s, b, n, t, e⟩ Kt) : Ev P (.seq (.region id ⟨l⟩ true) y) ⟨s, b, n, t, e⟩ Q :=
  An (Ev.rtp hlen h4 hm fun Kt hK => h Kt fun σ' h' => hK σ' h')
theorem pureW_s {P : Program} {σ : St} {o : Oper} {v : AV} (h : PureW P σ o v) : PureS P σ o v := fun C E X a hr => by
  obtain ⟨y, h1, h2⟩ := h C E X a hr; exact ⟨y, h1, fun w _ => h2 w⟩
theorem pure_ls {lt : TypeId} {x : Operand} {row : List AV} {j : Nat} {u : AV} {d : Option Nat} {ty : Nat} {pos : String} {aft : Array Edge} {g : Option (Nat × Bool)} (hx : Ba s x = some (.sadr row j)) (hl : AM.G3 P ⟨s, b, n, t, e⟩ lt (.sadr row j) = some u) : PureS P ⟨s, b, n, t, e⟩ ⟨d, .load lt x, ty, pos, aft, g⟩ u := by
  intro C E X a hr; have hv := hr.ev x; rw [AS hx] at hv; simp only [FV] at hv; obtain ⟨ad, xs, hxe, hs, hSb, hc, hh⟩ := hv; have hcs : FVc E (row.drop j) (xs.drop j) := FVc.le _ E.clear_le _ (hc.drop j)
  have hh2 : ∀ w : World, (∀ b, E.S b → w.heap[b]? = E.w.heap[b]?) → holds w (ad.add j) (xs.drop j) := fun w hw => by
    have hw2 : holds w ad xs := fun k u hk => by
      have h1 := hh k u hk
      have h2 : w.heap[(ad.add k).block]? = E.w.heap[(ad.add k).block]? := by rw [Gm]; exact hw _ hSb
      unfold World.cell? at h1 ⊢
      rw [h2]; exact h1
    exact hw2.drop hs j
  unfold AM.G3 at hl
  split at hl
  · rename_i cs ht hcf
    simp only [D5, Option.some.injEq] at hcf; subst hcf
    cases hble : Nat.ble (P.cellsOf lt) (row.drop j).length with
    | false => rw [hble] at hl; cases hl
    | true =>
      rw [hble] at hl; simp only [cond_true, Option.some.injEq] at hl; subst hl; have hle := EV hble; have ht' := ht
      unfold B9 at ht
      cases hu : P.underlying lt with
      | none => simp [hu] at ht
      | some dd =>
        obtain ⟨i, hi⟩ := info_of_underlying hu; have hsz := CM hi
        have hlen : ((xs.drop j).take i.size).length = i.size := by rw [List.length_take, hcs.length, ← hsz]; omega
        refine ⟨.agg ((xs.drop j).take i.size).toArray, ?_, fun w hw => ?_⟩
        · simp only [FV]; exact ⟨_, rfl, by rw [hsz]; exact hcs.take _⟩
        have hrun := run_loadCells_list (P := P) (w := w) (ad.add j) ((xs.drop j).take i.size) ((hh2 w hw).take _); rw [hlen] at hrun
        unfold execOp
        simp [hxe, Instr.loadAt, Instr.sureAddr, loadVar, run_isAgg (P := P) (t := lt) (b := true) ht', D2 hi, hrun]
  · rename_i c cs ht hcf
    simp only [Option.some.injEq] at hl; subst hl; simp only [D5, Option.some.injEq] at hcf; rw [hcf] at hcs; obtain ⟨y, hy, _, hv⟩ := hcs.get (j := 0) (c := c) rfl; refine ⟨y, hv, fun w hw => ?_⟩; have hcell := hh2 w hw 0 y hy; rw [Addr.add_zero'] at hcell
    unfold execOp
    simp [hxe, Instr.loadAt, Instr.sureAddr, loadVar, run_isAgg ht, hcell]
  cases hl
theorem HP.mv {l : List Oper} {i m d ty : Nat} {L : Array Bool} {Q : St → Prop} {x : Operand} {v : AV} {pos : String} {aft : Array Edge} (ho : l[i]? = some ⟨some d, .move x, ty, pos, aft, none⟩) (hx : Ba s x = some v := by exact rfl) (hdn : Nat.blt d t = true := by exact rfl) (hc : (Region.noSelect ⟨l⟩ && Region.free .any ⟨l⟩ L i && (Region.ready .any ⟨l⟩ L).contains i) = true := by kernel_rfl) (hd : d ≠ 1000000 := by decide)
    (h : HP P l m (L.setIfInBounds i true) ⟨(d, v) :: s, b, n, t, e⟩ Q) : HP P l (m + 1) L ⟨s, b, n, t, e⟩ Q := .take ho rfl (Nat.le_of_ble_eq_true hdn) hd rfl hc rfl (pureW_s (pureW_mv hx)) h
theorem HP.fa {l : List Oper} {i m d ty : Nat} {L : Array Bool} {Q : St → Prop} {st : TypeId} {x : Operand} {f off ft : Nat} {v u : AV} {pos : String} {aft : Array Edge} (hf : Br P st f = some (off, ft)) (hz : P.cellsOf ft ≠ 0) (ho : l[i]? = some ⟨some d, .fieldAddr st x f, ty, pos, aft, none⟩) (hx : Ba s x = some v := by exact rfl) (hu : shift off v = some u := by exact rfl) (hdn : Nat.blt d t = true := by exact rfl) (hc : (Region.noSelect ⟨l⟩ && Region.free .any ⟨l⟩ L i && (Region.ready .any ⟨l⟩ L).contains i) = true := by kernel_rfl) (hd : d ≠ 1000000 := by decide)
    (h : HP P l m (L.setIfInBounds i true) ⟨(d, u) :: s, b, n, t, e⟩ Q) : HP P l (m + 1) L ⟨s, b, n, t, e⟩ Q := .take ho rfl (Nat.le_of_ble_eq_true hdn) hd rfl hc rfl (pureW_s (pureW_fa hf hz hx hu)) h
theorem HP.ls1 {l : List Oper} {i m d ty : Nat} {L : Array Bool} {Q : St → Prop} {lt : TypeId} {x : Operand} {row : List AV} {j : Nat} {c : AV} {cs : List AV} {pos : String} {aft : Array Edge} (ha : B9 P lt = some false) (ho : l[i]? = some ⟨some d, .load lt x, ty, pos, aft, none⟩) (hx : Ba s x = some (.sadr row j) := by exact rfl) (hr : row.drop j = c :: cs := by exact rfl) (hdn : Nat.blt d t = true := by exact rfl) (hc : (Region.noSelect ⟨l⟩ && Region.free .any ⟨l⟩ L i && (Region.ready .any ⟨l⟩ L).contains i) = true := by kernel_rfl) (hd : d ≠ 1000000 := by decide)
    (h : HP P l m (L.setIfInBounds i true) ⟨(d, c) :: s, b, n, t, e⟩ Q) : HP P l (m + 1) L ⟨s, b, n, t, e⟩ Q := .take ho rfl (Nat.le_of_ble_eq_true hdn) hd rfl hc rfl (pure_ls hx (by unfold AM.G3; rw [ha]; simp only [D5]; rw [hr])) h
end
end Go.AM
