/-
  The abstract machine, continued: a drawn region: what is read alike in every world is taken first, the rest is a tree of orders.
  Conditions: none; generic over the program.
-/
import Derived.Test.YtkbpignlggahaaaGreatDoorAmHeld
import Derived.Test.YtkbpignlggahaaaGreatDoorAmMap
import Derived.Test.YtkbpignlggahaaaGreatDoorAmRes
namespace Go.AM
set_option linter.unusedVariables false
set_option linter.unusedSimpArgs false
set_option linter.unusedSectionVars false
def PureS (P : Program) (σ : St) (o : Oper) (v : AV) : Prop :=
  ∀ C E X a, Rel C E X σ a → ∃ y, FV E v y ∧ ∀ w : World, (∀ b, E.S b → w.heap[b]? = E.w.heap[b]?) → (execOp a.eval o).run P w = .ok (.value y) w
inductive HP (P : Program) (l : List Oper) : Nat → Array Bool → St → (St → Prop) → Prop
  | done {n : Nat} {L : Array Bool} {σ : St} {Q : St → Prop} (h : HT P l 1000000 (fun _ => True) n L σ Q) : HP P l n L σ Q
  | take {n i d : Nat} {L L' : Array Bool} {σ : St} {Q : St → Prop} {o : Oper} {v : AV} (ho : l[i]? = some o) (hd : o.dst = some d) (hdn : d < σ.nt) (hdt : d ≠ 1000000) (hg : guardGo (dstsOf ⟨l⟩) σ o.guard = some true) (hc : (Region.noSelect ⟨l⟩ && Region.free .any ⟨l⟩ L i && (Region.ready .any ⟨l⟩ L).contains i) = true) (hL : L.setIfInBounds i true = L') (hp : PureS P σ o v) (h : HP P l n L' (σ.put (some d) v) Q) : HP P l (n + 1) L σ Q
theorem pre_seq {P : Program} {l : List Oper} {C : Ctx} {E : Env} {X : Nat → List Value} {Qn : St → Prop} (hS : ∀ E' X' σ' a', Rel C E' X' σ' a' → ∀ b, E.S b → E'.w.heap[b]? = E.w.heap[b]?) {n : Nat} {L : Array Bool} {σ : St} (h : HP P l n L σ Qn) :
    ∀ (a : Act), Rel C E X σ a → wpAnyH P .any ⟨l⟩ (nrmE fun a' w' => ∃ E' X' σ', E'.w = w' ∧ Rel C E' X' σ' a' ∧ Qn σ') (fun w => ∀ b, E.S b → w.heap[b]? = E.w.heap[b]?) n L a E.w := by
  induction h with
  | done h =>
    intro a hr; exact held_seq (hb := fun _ => True) (v0 := a.tmps[1000000]?) (fun E' X' σ' a' h1 _ _ => hS E' X' σ' a' h1) _ _ E X _ a hr h rfl
  | take ho hd hdn hdt hg hc hL hp h ih =>
    intro a hr; subst hL; simp only [Bool.and_eq_true] at hc; obtain ⟨y, hy, hrun⟩ := hp C E X a hr; exact take_one hr ho hd hdn hg hc.1.1 hc.1.2 hc.2 (fun b _ => rfl) hrun hy fun hr1 => ih _ hr1
def Ctx.at (C : Ctx) (E : Env) (σ : St) : Ctx := { C with w0 := E.w, own := fun b => ∃ r o, find σ.objs r = some o ∧ blockOf (E.H r) = some b, S0 := E.S }
theorem Rel.rebase {C : Ctx} {E : Env} {X : Nat → List Value} {σ : St} {a : Act} (h : Rel C E X σ a) : Rel (C.at E σ) E X σ a :=
  ⟨h.slots, h.size, h.defers, h.objs, h.apart, h.stay, h.fresh, Keep.refl _ _, fun r o b h1 h2 => .inl ⟨r, o, h1, h2⟩, h.env, h.envD, fun b hb => hb, fun b hb => .inl hb, h.envk, h.glob⟩
theorem Rel.unbase {C : Ctx} {E E' : Env} {X X' : Nat → List Value} {σ σ' : St} {a a' : Act} (h : Rel C E X σ a) (h' : Rel (C.at E σ) E' X' σ' a') : Rel C E' X' σ' a' := by
  have hown : ∀ b, (C.at E σ).own b → C.own b ∨ C.w0.heap.size ≤ b := fun b ⟨r, o, h1, h2⟩ => h.mine r o b h1 h2; have hsz := h.kept.size; refine ⟨h'.slots, h'.size, h'.defers, h'.objs, h'.apart, h'.stay, h'.fresh, ⟨h'.kept.os.trans h.kept.os, h.kept.tape.trans h'.kept.tape, h'.kept.output.trans h.kept.output, Nat.le_trans hsz h'.kept.size, fun b hb hn => ?_⟩, fun r o b h1 h2 => ?_, h'.env, h'.envD, fun b hb => h'.base b (h.base b hb), fun b hb => ?_, h'.envk, h'.glob⟩
  · refine (h'.kept.block b (Nat.lt_of_lt_of_le hb hsz) fun ho => ?_).trans (h.kept.block b hb hn)
    rcases hown b ho with h1 | h1
    · exact hn h1
    · omega
  · rcases h'.mine r o b h1 h2 with h3 | h3
    · exact hown b h3
    · exact .inr (Nat.le_trans hsz h3)
  · rcases h'.grow b hb with h3 | h3 | h3
    · exact h.grow b h3
    · exact .inr (.inl (Nat.le_trans hsz h3))
    · rcases hown b h3 with h4 | h4
      · exact .inr (.inr h4)
      · exact .inr (.inl h4)
theorem Rel.at_keeps {C : Ctx} {E E' : Env} {X X' : Nat → List Value} {σ σ' : St} {a a' : Act} (h : Rel C E X σ a) (h' : Rel (C.at E σ) E' X' σ' a') : ∀ b, E.S b → E'.w.heap[b]? = E.w.heap[b]? := fun b hb =>
  h'.kept.block b (h.stay b hb).1 fun ⟨r, o, h1, h2⟩ => (h.stay b hb).2 r o h1 h2
section
variable {P : Program} {s : List (Nat × AV)} {b : List (Nat × Obj)} {n t e : Nat} {Q : Exit → St → Prop}
theorem Ev.rtp {l : List Oper} {id m : Nat} {L0 : Array Bool} (hlen : l.length = m) (h4 : Array.replicate l.length false = L0) (hm : P.follows .mixedOrders = true)
    (h : ∀ Kt : St → Prop, (∀ σ', Q .normal σ' → Kt σ') → HP P l m L0 ⟨s, b, n, t, e⟩ Kt) : Ev P (.region id ⟨l⟩ true) ⟨s, b, n, t, e⟩ Q := by
  subst h4 hlen; intro C E X a hr; have hrd := hr.drew
  refine wp_mono (wp_region_held (Q := nrmE fun a' w' => ∃ E' X' σ', E'.w = w' ∧ Rel (C.at { E with w := E.w.drew } ⟨s, b, n, t, e⟩) E' X' σ' a' ∧ Q .normal σ') (S := fun w => ∀ b, E.S b → w.heap[b]? = E.w.drew.heap[b]?) hm ?_) (fun e' a' w' hq => by
    obtain ⟨rfl, E', X', σ', h1, h2, h3⟩ := hq
    exact ⟨E', X', σ', h1, hrd.unbase h2, h3⟩)
  exact pre_seq (E := { E with w := E.w.drew }) (fun E' X' σ' a' h1 => hrd.at_keeps h1) (h _ fun _ h => h) a hrd.rebase
theorem Ev.stp {l : List Oper} {id m : Nat} {L0 : Array Bool} {y : Code} (hlen : l.length = m) (h4 : Array.replicate l.length false = L0) (hm : P.follows .mixedOrders = true)
    (h : ∀ Kt : St → Prop, (∀ σ', Ev P y σ' Q → Kt σ') → HP P l m L0 ⟨s, b, n, t, e⟩ Kt) : Ev P (.seq (.region id ⟨l⟩ true) y) ⟨s, b, n, t, e⟩ Q :=
  Ev.seq (Ev.rtp hlen h4 hm fun Kt hK => h Kt fun σ' h' => hK σ' h')
theorem pureW_s {P : Program} {σ : St} {o : Oper} {v : AV} (h : PureW P σ o v) : PureS P σ o v := fun C E X a hr => by
  obtain ⟨y, h1, h2⟩ := h C E X a hr; exact ⟨y, h1, fun w _ => h2 w⟩
theorem pure_ix {st el c : TypeId} {x y : Operand} {k : IntKind} {i : Int} {rows : List (List AV)} {row : List AV} {d : Option Nat} {ty : Nat} {pos : String} {aft : Array Edge} {g : Option (Nat × Bool)} (hel : elemOfSlice P st = some el) (hcl : P.cellsOf el = c) (hc : c ≠ 0) (hx : opv s x = some (.sh c rows)) (hy : opv s y = some (.lit (.int k i))) (h0 : 0 ≤ i) (hr' : rows[i.toNat]? = some row) : PureS P ⟨s, b, n, t, e⟩ ⟨d, .indexAddr st x y, ty, pos, aft, g⟩ (.sadr row 0) := by
  intro C E X a hr; have hix := hr.ev y; rw [opv_ev hy] at hix; simp only [FV] at hix; have hu := elemOfSlice_eq hel; subst hcl
  cases hi : P.info? el with
  | none => simp [Program.cellsOf, hi] at hc
  | some i' =>
  have hv := hr.ev x; rw [opv_ev hx] at hv; have hcs : P.cellsOf el = i'.size := cellsOf_info hi; simp only [FV] at hv; obtain ⟨A, c', xs, hxe, hcap, hrr, hA⟩ := hv; have hlt : i.toNat < rows.length := (List.getElem?_eq_some_iff.1 hr').1; obtain ⟨a0, rfl, hs, hS, hh⟩ := hA (by intro e; rw [e] at hlt; simp at hlt); have hg := hrr.get hr'; refine ⟨.pointer (some (a0.add (i.toNat * i'.size))), ?_, fun w _ => ?_⟩
  · simp only [FV]; refine ⟨a0.add (i.toNat * i'.size), (xs.drop (i.toNat * P.cellsOf el)).take (P.cellsOf el), ?_, add_spot _ hs _, by rw [add_block]; exact hS, hg.2, ?_⟩
    · rw [Addr.add_zero']
    · rw [hcs]; exact (hh.drop hs _).take _
  · unfold execOp
    have hlt' : 0 ≤ i ∧ i < (rows.length : Int) := by omega
    simp only [Instr.indexAt, hix, asIntOf, hxe, Sem.run_bind, Sem.run_pure, Result.andThen_ok, run_underlying hu, hlt', and_self, if_true, run_sizeOf' hi]
theorem pure_ls {lt : TypeId} {x : Operand} {row : List AV} {j : Nat} {u : AV} {d : Option Nat} {ty : Nat} {pos : String} {aft : Array Edge} {g : Option (Nat × Bool)} (hx : opv s x = some (.sadr row j)) (hl : AM.loadAV P ⟨s, b, n, t, e⟩ lt (.sadr row j) = some u) : PureS P ⟨s, b, n, t, e⟩ ⟨d, .load lt x, ty, pos, aft, g⟩ u := by
  intro C E X a hr; have hv := hr.ev x; rw [opv_ev hx] at hv; simp only [FV] at hv; obtain ⟨ad, xs, hxe, hs, hSb, hc, hh⟩ := hv; have hcs : FVc E (row.drop j) (xs.drop j) := FVc.le _ E.clear_le _ (hc.drop j)
  have hh2 : ∀ w : World, (∀ b, E.S b → w.heap[b]? = E.w.heap[b]?) → holds w (ad.add j) (xs.drop j) := fun w hw => by
    have hw2 : holds w ad xs := fun k u hk => by
      have h1 := hh k u hk
      have h2 : w.heap[(ad.add k).block]? = E.w.heap[(ad.add k).block]? := by rw [add_block]; exact hw _ hSb
      unfold World.cell? at h1 ⊢
      rw [h2]; exact h1
    exact hw2.drop hs j
  unfold AM.loadAV at hl
  split at hl
  · rename_i cs ht hcf
    simp only [cellsFrom, Option.some.injEq] at hcf; subst hcf
    cases hble : Nat.ble (P.cellsOf lt) (row.drop j).length with
    | false => rw [hble] at hl; cases hl
    | true =>
      rw [hble] at hl; simp only [cond_true, Option.some.injEq] at hl; subst hl; have hle := ble_le hble; have ht' := ht
      unfold isAggT at ht
      cases hu : P.underlying lt with
      | none => simp [hu] at ht
      | some dd =>
        obtain ⟨i, hi⟩ := info_of_underlying hu; have hsz := cellsOf_info hi
        have hlen : ((xs.drop j).take i.size).length = i.size := by rw [List.length_take, hcs.length, ← hsz]; omega
        refine ⟨.agg ((xs.drop j).take i.size).toArray, ?_, fun w hw => ?_⟩
        · simp only [FV]; exact ⟨_, rfl, by rw [hsz]; exact hcs.take _⟩
        · have hrun := run_loadCells_list (P := P) (w := w) (ad.add j) ((xs.drop j).take i.size) ((hh2 w hw).take _); rw [hlen] at hrun
          unfold execOp
          simp [hxe, Instr.loadAt, Instr.sureAddr, loadVar, run_isAgg (P := P) (t := lt) (b := true) ht', run_sizeOf' hi, hrun]
  · rename_i c cs ht hcf
    simp only [Option.some.injEq] at hl; subst hl; simp only [cellsFrom, Option.some.injEq] at hcf; rw [hcf] at hcs; obtain ⟨y, hy, _, hv⟩ := hcs.get (j := 0) (c := c) rfl; refine ⟨y, hv, fun w hw => ?_⟩; have hcell := hh2 w hw 0 y hy; rw [Addr.add_zero'] at hcell
    unfold execOp
    simp [hxe, Instr.loadAt, Instr.sureAddr, loadVar, run_isAgg ht, hcell]
  · cases hl
theorem HP.mv {l : List Oper} {i m d ty : Nat} {L : Array Bool} {Q : St → Prop} {x : Operand} {v : AV} {pos : String} {aft : Array Edge} (ho : l[i]? = some ⟨some d, .move x, ty, pos, aft, none⟩) (hx : opv s x = some v := by exact rfl) (hdn : Nat.blt d t = true := by exact rfl) (hc : (Region.noSelect ⟨l⟩ && Region.free .any ⟨l⟩ L i && (Region.ready .any ⟨l⟩ L).contains i) = true := by kernel_rfl) (hd : d ≠ 1000000 := by decide)
    (h : HP P l m (L.setIfInBounds i true) ⟨(d, v) :: s, b, n, t, e⟩ Q) : HP P l (m + 1) L ⟨s, b, n, t, e⟩ Q := .take ho rfl (Nat.le_of_ble_eq_true hdn) hd rfl hc rfl (pureW_s (pureW_mv hx)) h
theorem HP.fa {l : List Oper} {i m d ty : Nat} {L : Array Bool} {Q : St → Prop} {st : TypeId} {x : Operand} {f off ft : Nat} {v u : AV} {pos : String} {aft : Array Edge} (hf : fieldOf P st f = some (off, ft)) (hz : P.cellsOf ft ≠ 0) (ho : l[i]? = some ⟨some d, .fieldAddr st x f, ty, pos, aft, none⟩) (hx : opv s x = some v := by exact rfl) (hu : shift off v = some u := by exact rfl) (hdn : Nat.blt d t = true := by exact rfl) (hc : (Region.noSelect ⟨l⟩ && Region.free .any ⟨l⟩ L i && (Region.ready .any ⟨l⟩ L).contains i) = true := by kernel_rfl) (hd : d ≠ 1000000 := by decide)
    (h : HP P l m (L.setIfInBounds i true) ⟨(d, u) :: s, b, n, t, e⟩ Q) : HP P l (m + 1) L ⟨s, b, n, t, e⟩ Q := .take ho rfl (Nat.le_of_ble_eq_true hdn) hd rfl hc rfl (pureW_s (pureW_fa hf hz hx hu)) h
theorem HP.ix {T : Type} {f : T → List AV} {l : List Oper} {i m d ty st el c : Nat} {L : Array Bool} {Q : St → Prop} {x y : Operand} {k : IntKind} {ii : Int} {lst : List T} {qq : T} {pos : String} {aft : Array Edge} (hel : elemOfSlice P st = some el) (hcl : P.cellsOf el = c) (hc0 : c ≠ 0) (ho : l[i]? = some ⟨some d, .indexAddr st x y, ty, pos, aft, none⟩) (hx : opv s x = some (.sh c (lst.map f)) := by exact rfl) (hy : opv s y = some (.lit (.int k ii)) := by exact rfl) (hl : 0 ≤ ii ∧ lst[ii.toNat]? = some qq := by assumption) (hdn : Nat.blt d t = true := by exact rfl) (hc : (Region.noSelect ⟨l⟩ && Region.free .any ⟨l⟩ L i && (Region.ready .any ⟨l⟩ L).contains i) = true := by kernel_rfl) (hd : d ≠ 1000000 := by decide)
    (h : HP P l m (L.setIfInBounds i true) ⟨(d, .sadr (f qq) 0) :: s, b, n, t, e⟩ Q) : HP P l (m + 1) L ⟨s, b, n, t, e⟩ Q := .take ho rfl (Nat.le_of_ble_eq_true hdn) hd rfl hc rfl (pure_ix hel hcl hc0 hx hy hl.1 (by simp only [List.getElem?_map, hl.2, Option.map_some])) h
theorem HP.ls1 {l : List Oper} {i m d ty : Nat} {L : Array Bool} {Q : St → Prop} {lt : TypeId} {x : Operand} {row : List AV} {j : Nat} {c : AV} {cs : List AV} {pos : String} {aft : Array Edge} (ha : isAggT P lt = some false) (ho : l[i]? = some ⟨some d, .load lt x, ty, pos, aft, none⟩) (hx : opv s x = some (.sadr row j) := by exact rfl) (hr : row.drop j = c :: cs := by exact rfl) (hdn : Nat.blt d t = true := by exact rfl) (hc : (Region.noSelect ⟨l⟩ && Region.free .any ⟨l⟩ L i && (Region.ready .any ⟨l⟩ L).contains i) = true := by kernel_rfl) (hd : d ≠ 1000000 := by decide)
    (h : HP P l m (L.setIfInBounds i true) ⟨(d, c) :: s, b, n, t, e⟩ Q) : HP P l (m + 1) L ⟨s, b, n, t, e⟩ Q := .take ho rfl (Nat.le_of_ble_eq_true hdn) hd rfl hc rfl (pure_ls hx (by unfold AM.loadAV; rw [ha]; simp only [cellsFrom]; rw [hr])) h
theorem HP.lsA {l : List Oper} {i m d ty sz : Nat} {L : Array Bool} {Q : St → Prop} {lt : TypeId} {x : Operand} {row : List AV} {j : Nat} {pos : String} {aft : Array Edge} (cs : List AV) (ha : isAggT P lt = some true) (hz : P.cellsOf lt = sz) (ho : l[i]? = some ⟨some d, .load lt x, ty, pos, aft, none⟩) (hx : opv s x = some (.sadr row j) := by exact rfl) (hr : (row.drop j).take sz = cs := by exact rfl) (hle : Nat.ble sz (row.drop j).length = true := by exact rfl) (hdn : Nat.blt d t = true := by exact rfl) (hc : (Region.noSelect ⟨l⟩ && Region.free .any ⟨l⟩ L i && (Region.ready .any ⟨l⟩ L).contains i) = true := by kernel_rfl) (hd : d ≠ 1000000 := by decide)
    (h : HP P l m (L.setIfInBounds i true) ⟨(d, .agg cs) :: s, b, n, t, e⟩ Q) : HP P l (m + 1) L ⟨s, b, n, t, e⟩ Q := .take ho rfl (Nat.le_of_ble_eq_true hdn) hd rfl hc rfl (pure_ls hx (by unfold AM.loadAV; rw [ha]; simp only [cellsFrom, hz, hle, cond_true, hr])) h
end
end Go.AM
