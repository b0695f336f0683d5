/-
  The abstract machine, continued: the rules of control for iterators, rounds and functions that range over a function.
  Conditions: none; generic over the program.
-/
import Derived.Test.YtigjoaejncfmdaaAmYield
import Derived.Test.YtigjoaejncfmdaaAmRenR
namespace Go.AM
set_option linter.unusedVariables false
set_option linter.unusedSimpArgs false
set_option linter.unusedSectionVars false
theorem EvY.skip {ι : Type} {P : Program} {S0 : Nat → Prop} {J : ι → (Nat → Prop) → World → Prop} {σ : St} {g : ι} {Q : Exit → St → ι → Prop} (h : Q .normal σ g) : EvY P S0 J .skip σ g Q := EvY.plain (Ev.skip h)
theorem EvY.exit {ι : Type} {P : Program} {S0 : Nat → Prop} {J : ι → (Nat → Prop) → World → Prop} {σ : St} {g : ι} {Q : Exit → St → ι → Prop} {id : Nat} (h : Q (.exit id) σ g) : EvY P S0 J (.exit id) σ g Q := EvY.plain (Ev.exit h)
theorem EvY.ret {ι : Type} {P : Program} {S0 : Nat → Prop} {J : ι → (Nat → Prop) → World → Prop} {σ : St} {g : ι} {Q : Exit → St → ι → Prop} (h : Q .ret σ g) : EvY P S0 J .ret σ g Q := EvY.plain (Ev.ret h)
section
variable {ι : Type} {P : Program} {S0 : Nat → Prop} {J : ι → (Nat → Prop) → World → Prop} {g : ι} {s : List (Nat × AV)} {b : List (Nat × Obj)} {n t e : Nat} {Q : Exit → St → ι → Prop}
theorem EvY.c {c : Operand} {x y : Code} {bb : Bool} (ht : bb = true → EvY P S0 J x ⟨s, b, n, t, e⟩ g Q) (hf : bb = false → EvY P S0 J y ⟨s, b, n, t, e⟩ g Q) (hc : opv s c = some (.lit (.bool bb)) := by exact rfl) : EvY P S0 J (.cond c x y) ⟨s, b, n, t, e⟩ g Q := EvY.cond (opv_ev hc) ht hf
theorem EvY.cd {c : Operand} {x y : Code} {p : Prop} [Decidable p] (ht : p → EvY P S0 J x ⟨s, b, n, t, e⟩ g Q) (hf : ¬ p → EvY P S0 J y ⟨s, b, n, t, e⟩ g Q) (hc : opv s c = some (.lit (.bool (decide p))) := by exact rfl) : EvY P S0 J (.cond c x y) ⟨s, b, n, t, e⟩ g Q := EvY.c (fun h => ht (of_decide_eq_true h)) (fun h => hf (of_decide_eq_false h)) hc
theorem EvY.cn {c : Operand} {x y : Code} {p : Prop} [Decidable p] (ht : ¬ p → EvY P S0 J x ⟨s, b, n, t, e⟩ g Q) (hf : p → EvY P S0 J y ⟨s, b, n, t, e⟩ g Q) (hc : opv s c = some (.lit (.bool (!decide p))) := by exact rfl) : EvY P S0 J (.cond c x y) ⟨s, b, n, t, e⟩ g Q := EvY.c (fun h => ht (by simpa using h)) (fun h => hf (by simpa using h)) hc
theorem EvY.ct {c : Operand} {x y : Code} (h : EvY P S0 J x ⟨s, b, n, t, e⟩ g Q) (hc : opv s c = some (.lit (.bool true)) := by exact rfl) : EvY P S0 J (.cond c x y) ⟨s, b, n, t, e⟩ g Q := EvY.cond (opv_ev hc) (fun _ => h) (fun h => by cases h)
theorem EvY.cf {c : Operand} {x y : Code} (h : EvY P S0 J y ⟨s, b, n, t, e⟩ g Q) (hc : opv s c = some (.lit (.bool false)) := by exact rfl) : EvY P S0 J (.cond c x y) ⟨s, b, n, t, e⟩ g Q := EvY.cond (opv_ev hc) (fun h => by cases h) (fun _ => h)
theorem EvY.sr {σ : St} {id : Nat} {l : List Oper} {y : Code} (h : ∀ K : St → Prop, (∀ σ', EvY P S0 J y σ' g Q → K σ') → SeqL P ⟨l⟩ l σ K) : EvY P S0 J (.seq (.region id ⟨l⟩ false) y) σ g Q := EvY.seqE (Ev.region_S fun K hK => h K fun σ' h' => hK σ' h')
theorem EvY.sm {id : Nat} {l : List Oper} {y : Code} (T : List (List Bool)) (K : Nat) (h : ∀ Kt : St → Prop, (∀ σ', EvY P S0 J y σ' g Q → Kt σ') → DM P l T (n + 4 * K) (endD P l (n + 4 * K) Kt) l K 0 ⟨s, b, n, t, e⟩ []) (hm : P.follows .mixedOrders = true := by exact rfl) (hok : drawOk l T ⟨s, b, n, t, e⟩ K = true := by exact rfl)
    (hch : readsChkM l T K = true := by exact rfl) (hTl : Nat.ble K T.length = true := by exact rfl) (hkb : keysLt n b = true := by exact rfl) : EvY P S0 J (.seq (.region id ⟨l⟩ true) y) ⟨s, b, n, t, e⟩ g Q := EvY.seqE (Ev.region_M T K (fun Kt hK => h Kt fun σ' h' => hK σ' h') hm hok hch hTl hkb)
theorem EvY.sl {id : Nat} {l : List Oper} {y : Code} (T : List (List Bool)) (K : Nat) (h : ∀ Kt : St → Prop, (∀ σ', EvY P S0 J y σ' g Q → Kt σ') → DM P l T (n + 4 * K) (lateD P l T (n + 4 * K) Kt) l K 0 ⟨s, b, n, t, e⟩ []) (hm : P.follows .mixedOrders = true := by exact rfl) (hok : drawOkL l T ⟨s, b, n, t, e⟩ K = true := by exact rfl)
    (hch : readsChkM l T K = true := by exact rfl) (hTl : Nat.ble K T.length = true := by exact rfl) (hkb : keysLt n b = true := by exact rfl) : EvY P S0 J (.seq (.region id ⟨l⟩ true) y) ⟨s, b, n, t, e⟩ g Q := EvY.seqE (Ev.region_L T K (fun Kt hK => h Kt fun σ' h' => hK σ' h') hm hok hch hTl hkb)
theorem EvY.tb {c : Operand} {x y : Code} {bb : Bool} (ht : bb = true → EvY P S0 J x ⟨s, b, n, t, e⟩ g (thenY (fun σ' g' => EvY P S0 J y σ' g' Q) Q)) (hf : bb = false → EvY P S0 J y ⟨s, b, n, t, e⟩ g Q) (hc : opv s c = some (.lit (.bool bb)) := by exact rfl) : EvY P S0 J (.seq (.cond c x .skip) y) ⟨s, b, n, t, e⟩ g Q := EvY.seq (EvY.c ht (fun h => EvY.skip (hf h)) hc)
theorem EvY.tt {c : Operand} {x y : Code} (h : EvY P S0 J x ⟨s, b, n, t, e⟩ g (thenY (fun σ' g' => EvY P S0 J y σ' g' Q) Q)) (hc : opv s c = some (.lit (.bool true)) := by exact rfl) : EvY P S0 J (.seq (.cond c x .skip) y) ⟨s, b, n, t, e⟩ g Q := EvY.seq (EvY.ct h hc)
theorem EvY.ud {c : Operand} {x y : Code} {p : Prop} [Decidable p] (ht : p → EvY P S0 J y ⟨s, b, n, t, e⟩ g Q) (hf : ¬ p → EvY P S0 J x ⟨s, b, n, t, e⟩ g (thenY (fun σ' g' => EvY P S0 J y σ' g' Q) Q)) (hc : opv s c = some (.lit (.bool (decide p))) := by exact rfl) : EvY P S0 J (.seq (.cond c .skip x) y) ⟨s, b, n, t, e⟩ g Q := EvY.seq (EvY.cd (fun h => EvY.skip (ht h)) hf hc)
theorem EvY.region_S {σ : St} {id : Nat} {l : List Oper} (h : ∀ K : St → Prop, (∀ σ', Q .normal σ' g → K σ') → SeqL P ⟨l⟩ l σ K) : EvY P S0 J (.region id ⟨l⟩ false) σ g Q := EvY.plain (Ev.region_S h)
theorem EvY.region_M {id : Nat} {l : List Oper} (T : List (List Bool)) (K : Nat) (h : ∀ Kt : St → Prop, (∀ σ', Q .normal σ' g → Kt σ') → DM P l T (n + 4 * K) (endD P l (n + 4 * K) Kt) l K 0 ⟨s, b, n, t, e⟩ []) (hm : P.follows .mixedOrders = true := by exact rfl) (hok : drawOk l T ⟨s, b, n, t, e⟩ K = true := by exact rfl)
    (hch : readsChkM l T K = true := by exact rfl) (hTl : Nat.ble K T.length = true := by exact rfl) (hkb : keysLt n b = true := by exact rfl) : EvY P S0 J (.region id ⟨l⟩ true) ⟨s, b, n, t, e⟩ g Q := EvY.plain (Ev.region_M T K h hm hok hch hTl hkb)
theorem EvY.loopU {c : Code} {κ : Type} (G : κ → ι) (rs : List Nat) (ks : List Nat) {kept : List (Nat × AV)} (U : κ → List (Nat × AV)) (O : κ → List (Nat × Obj)) (μ : κ → Nat) (x0 : κ) (hk : Kept (pos rs 0) s ks kept) (hO : keepObjs ⟨s, b, n, t, e⟩ (pos rs 0) 0 rs = some (O x0)) (hU : slotsRen (pos rs 0) ⟨s, b, n, t, e⟩ (U x0)) (hg : g = G x0)
    (round : ∀ x (R : Exit → St → ι → Prop), (∀ e' σ' g', roundY (fun x => ⟨U x ++ kept, O x, rs.length, t, e⟩) G μ x Q e' σ' g' → R e' σ' g') → EvY P S0 J c ⟨U x ++ kept, O x, rs.length, t, e⟩ (G x) R) (hnd : rs.Nodup := by decide) (hl : ∀ i, i < e → rs[i]? = some i := by decide) : EvY P S0 J (.loop c) ⟨s, b, n, t, e⟩ g Q :=
  EvY.loop (fun x => ⟨U x ++ kept, O x, rs.length, t, e⟩) G μ x0 hg (Wk.ren rs hnd (slotsRen_append hU hk.ren) hO rfl rfl rfl hl) fun x => round x _ fun _ _ _ h => h
theorem roundYU {κ : Type} {G : κ → ι} {U : κ → List (Nat × AV)} {kept : List (Nat × AV)} {O : κ → List (Nat × Obj)} {μ : κ → Nat} {x : κ} (rs ks : List Nat) {m : Nat} (y : κ) (hμ : μ y < μ x) (hO : keepObjs ⟨s, b, n, t, e⟩ (pos rs 0) 0 rs = some (O y)) (hU : slotsRen (pos rs 0) ⟨s, b, n, t, e⟩ (U y)) (hk : Kept (pos rs 0) s ks kept) (hg : g = G y) (hm : rs.length = m := by exact rfl)
    (hnd : rs.Nodup := by decide) (hl : ∀ i, i < e → rs[i]? = some i := by decide) : roundY (fun x => ⟨U x ++ kept, O x, m, t, e⟩) G μ x Q .normal ⟨s, b, n, t, e⟩ g :=
  ⟨y, hμ, Wk.ren rs hnd (slotsRen_append hU hk.ren) hO hm.symm rfl rfl hl, hg⟩
end
section
variable {P : Program} {s : List (Nat × AV)} {b : List (Nat × Obj)} {n t e : Nat} {Q : Exit → St → Prop}
theorem EvT.sr {σ : St} {id : Nat} {l : List Oper} {y : Code} (h : ∀ K : St → Prop, (∀ σ', EvT P y σ' Q → K σ') → SeqL P ⟨l⟩ l σ K) : EvT P (.seq (.region id ⟨l⟩ false) y) σ Q := EvT.split (Ev.region_S fun K hK => h K fun σ' h' => hK σ' h')
theorem EvT.sm {id : Nat} {l : List Oper} {y : Code} (T : List (List Bool)) (K : Nat) (h : ∀ Kt : St → Prop, (∀ σ', EvT P y σ' Q → Kt σ') → DM P l T (n + 4 * K) (endD P l (n + 4 * K) Kt) l K 0 ⟨s, b, n, t, e⟩ []) (hm : P.follows .mixedOrders = true := by exact rfl) (hok : drawOk l T ⟨s, b, n, t, e⟩ K = true := by exact rfl)
    (hch : readsChkM l T K = true := by exact rfl) (hTl : Nat.ble K T.length = true := by exact rfl) (hkb : keysLt n b = true := by exact rfl) : EvT P (.seq (.region id ⟨l⟩ true) y) ⟨s, b, n, t, e⟩ Q := EvT.split (Ev.region_M T K (fun Kt hK => h Kt fun σ' h' => hK σ' h') hm hok hch hTl hkb)
theorem EvT.sl {id : Nat} {l : List Oper} {y : Code} (T : List (List Bool)) (K : Nat) (h : ∀ Kt : St → Prop, (∀ σ', EvT P y σ' Q → Kt σ') → DM P l T (n + 4 * K) (lateD P l T (n + 4 * K) Kt) l K 0 ⟨s, b, n, t, e⟩ []) (hm : P.follows .mixedOrders = true := by exact rfl) (hok : drawOkL l T ⟨s, b, n, t, e⟩ K = true := by exact rfl)
    (hch : readsChkM l T K = true := by exact rfl) (hTl : Nat.ble K T.length = true := by exact rfl) (hkb : keysLt n b = true := by exact rfl) : EvT P (.seq (.region id ⟨l⟩ true) y) ⟨s, b, n, t, e⟩ Q := EvT.split (Ev.region_L T K (fun Kt hK => h Kt fun σ' h' => hK σ' h') hm hok hch hTl hkb)
theorem EvT.tb {c : Operand} {x y : Code} {bb : Bool} (ht : bb = true → Ev P x ⟨s, b, n, t, e⟩ (thenP (fun σ' => EvT P y σ' Q) Q)) (hf : bb = false → EvT P y ⟨s, b, n, t, e⟩ Q) (hc : opv s c = some (.lit (.bool bb)) := by exact rfl) : EvT P (.seq (.cond c x .skip) y) ⟨s, b, n, t, e⟩ Q := EvT.split (Ev.c ht (fun h => Ev.skip (hf h)) hc)
theorem EvT.tt {c : Operand} {x y : Code} (h : Ev P x ⟨s, b, n, t, e⟩ (thenP (fun σ' => EvT P y σ' Q) Q)) (hc : opv s c = some (.lit (.bool true)) := by exact rfl) : EvT P (.seq (.cond c x .skip) y) ⟨s, b, n, t, e⟩ Q := EvT.split (Ev.ct h hc)
theorem EvT.ud {c : Operand} {x y : Code} {p : Prop} [Decidable p] (ht : p → EvT P y ⟨s, b, n, t, e⟩ Q) (hf : ¬ p → Ev P x ⟨s, b, n, t, e⟩ (thenP (fun σ' => EvT P y σ' Q) Q)) (hc : opv s c = some (.lit (.bool (decide p))) := by exact rfl) : EvT P (.seq (.cond c .skip x) y) ⟨s, b, n, t, e⟩ Q := EvT.split (Ev.cd (fun h => Ev.skip (ht h)) hf hc)
theorem EvB.sr {σ : St} {id : Nat} {l : List Oper} {y c2 : Code} (h : ∀ K : St → Prop, (∀ σ', EvB P y c2 σ' Q → K σ') → SeqL P ⟨l⟩ l σ K) : EvB P (.seq (.region id ⟨l⟩ false) y) c2 σ Q := EvB.seqE (Ev.region_S fun K hK => h K fun σ' h' => hK σ' h')
theorem EvT.weaken {c : Code} {σ σ' : St} (hw : Wk σ σ') (h : EvT P c σ' Q) : EvT P c σ Q := by
  intro C E X a hC hr
  obtain ⟨E', X', e, hr'⟩ := hw C E X a hr
  rw [← e]
  exact h C E' X' a hC hr'
end
section
variable {P : Program} {l0 n0 : Nat} {s : List (Nat × AV)} {b : List (Nat × Obj)} {n t e : Nat} {Q : Exit → St → Prop}
theorem EvI.c {c : Operand} {x y : Code} {bb : Bool} (ht : bb = true → EvI P l0 n0 x ⟨s, b, n, t, e⟩ Q) (hf : bb = false → EvI P l0 n0 y ⟨s, b, n, t, e⟩ Q) (hc : opv s c = some (.lit (.bool bb)) := by exact rfl) : EvI P l0 n0 (.cond c x y) ⟨s, b, n, t, e⟩ Q := EvI.cond (opv_ev hc) ht hf
theorem EvI.cd {c : Operand} {x y : Code} {p : Prop} [Decidable p] (ht : p → EvI P l0 n0 x ⟨s, b, n, t, e⟩ Q) (hf : ¬ p → EvI P l0 n0 y ⟨s, b, n, t, e⟩ Q) (hc : opv s c = some (.lit (.bool (decide p))) := by exact rfl) : EvI P l0 n0 (.cond c x y) ⟨s, b, n, t, e⟩ Q := EvI.c (fun h => ht (of_decide_eq_true h)) (fun h => hf (of_decide_eq_false h)) hc
theorem EvI.cn {c : Operand} {x y : Code} {p : Prop} [Decidable p] (ht : ¬ p → EvI P l0 n0 x ⟨s, b, n, t, e⟩ Q) (hf : p → EvI P l0 n0 y ⟨s, b, n, t, e⟩ Q) (hc : opv s c = some (.lit (.bool (!decide p))) := by exact rfl) : EvI P l0 n0 (.cond c x y) ⟨s, b, n, t, e⟩ Q := EvI.c (fun h => ht (by simpa using h)) (fun h => hf (by simpa using h)) hc
theorem EvI.ct {c : Operand} {x y : Code} (h : EvI P l0 n0 x ⟨s, b, n, t, e⟩ Q) (hc : opv s c = some (.lit (.bool true)) := by exact rfl) : EvI P l0 n0 (.cond c x y) ⟨s, b, n, t, e⟩ Q := EvI.cond (opv_ev hc) (fun _ => h) (fun h => by cases h)
theorem EvI.cf {c : Operand} {x y : Code} (h : EvI P l0 n0 y ⟨s, b, n, t, e⟩ Q) (hc : opv s c = some (.lit (.bool false)) := by exact rfl) : EvI P l0 n0 (.cond c x y) ⟨s, b, n, t, e⟩ Q := EvI.cond (opv_ev hc) (fun h => by cases h) (fun _ => h)
theorem EvI.tb {c : Operand} {x y : Code} {bb : Bool} (ht : bb = true → EvI P l0 n0 x ⟨s, b, n, t, e⟩ (thenP (fun σ' => EvI P l0 n0 y σ' Q) Q)) (hf : bb = false → EvI P l0 n0 y ⟨s, b, n, t, e⟩ Q) (hc : opv s c = some (.lit (.bool bb)) := by exact rfl) : EvI P l0 n0 (.seq (.cond c x .skip) y) ⟨s, b, n, t, e⟩ Q := EvI.seq (EvI.c ht (fun h => EvI.skip (hf h)) hc)
theorem EvI.tt {c : Operand} {x y : Code} (h : EvI P l0 n0 x ⟨s, b, n, t, e⟩ (thenP (fun σ' => EvI P l0 n0 y σ' Q) Q)) (hc : opv s c = some (.lit (.bool true)) := by exact rfl) : EvI P l0 n0 (.seq (.cond c x .skip) y) ⟨s, b, n, t, e⟩ Q := EvI.seq (EvI.ct h hc)
theorem EvI.ud {c : Operand} {x y : Code} {p : Prop} [Decidable p] (ht : p → EvI P l0 n0 y ⟨s, b, n, t, e⟩ Q) (hf : ¬ p → EvI P l0 n0 x ⟨s, b, n, t, e⟩ (thenP (fun σ' => EvI P l0 n0 y σ' Q) Q)) (hc : opv s c = some (.lit (.bool (decide p))) := by exact rfl) : EvI P l0 n0 (.seq (.cond c .skip x) y) ⟨s, b, n, t, e⟩ Q := EvI.seq (EvI.cd (fun h => EvI.skip (ht h)) hf hc)
theorem EvI.sr {σ : St} {id : Nat} {l : List Oper} {y : Code} (h : ∀ K : St → Prop, (∀ σ', EvI P l0 n0 y σ' Q → K σ') → SeqL P ⟨l⟩ l σ K) (hd : l.all noDefer = true := by exact rfl) : EvI P l0 n0 (.seq (.region id ⟨l⟩ false) y) σ Q := EvI.seq (EvI.region hd (h _ fun _ h => h))
theorem EvI.region_S {σ : St} {id : Nat} {l : List Oper} (h : ∀ K : St → Prop, (∀ σ', Q .normal σ' → K σ') → SeqL P ⟨l⟩ l σ K) (hd : l.all noDefer = true := by exact rfl) : EvI P l0 n0 (.region id ⟨l⟩ false) σ Q := EvI.region hd (h _ fun _ h => h)
end
/-- A call of yield amid other operations. -/
theorem wpL_to {P : Program} {ops : Array Oper} {n : Nat} {l2 : List Oper} {Q : Exit → Act → World → Prop} : ∀ (l1 : List Oper) (a : Act) (w : World), wpL P ops (fun e a w => e = .normal ∧ wpListIn Fence.wide n P ops Q l2 a w) l1 a w → wpListIn Fence.wide n P ops Q (l1 ++ l2) a w
  | [], a, w, h => by rw [wpL_nil] at h; exact h.2
  | o :: l1, a, w, h => by
    rw [wpL_cons] at h
    simp only [List.cons_append, wpListIn]
    split at h
    · rename_i hw
      rw [if_pos hw]
      refine ⟨fun _ _ => trivial, ?_⟩
      have e : o.semAt Fence.wide.round a.eval = execOp a.eval o := rfl
      rw [e]
      unfold Oper.wp at h
      generalize (execOp a.eval o).run P w = r at *
      cases r with
      | ok x w' =>
        cases x <;> simp only [Oper.upon, Oper.uponIn] at h ⊢
        case value u => exact wpL_to l1 _ _ h
        case skip => exact wpL_to l1 _ _ h
        case defer d => exact wpL_to l1 _ _ h
        case enter f args =>
          refine ⟨fun h0 => by simp [Fence.wide] at h0, callsIn_wide.2 (h.mono ?_)⟩
          rintro e w'' h'
          cases e <;> simp only at h' ⊢
          · exact wpL_to l1 _ _ h'
          · exact absurd h'.1 (by simp)
          · obtain ⟨a0, w0, h0, _⟩ := h'
            cases h0
        case row row args =>
          refine ⟨fun h0 => by simp [Fence.wide] at h0, ?_⟩
          intro c cs _
          obtain ⟨v, w', r, s⟩ := h c cs
          exact ⟨v, w', wpL_to l1 _ _ r, stepsIn_wide.2 s⟩
      | halt x w' =>
        cases x <;> simp only [Oper.upon, Oper.uponIn] at h ⊢
        case panic v => exact absurd h.1 (by simp)
    · rename_i hw
      rw [if_neg hw]
      exact ⟨fun _ _ => trivial, wpL_to l1 _ _ h⟩
/-- A call of yield, amid other operations. -/
def YP (P : Program) (ops : Array Oper) (l : Nat) (l2 : List Oper) (zs : List Operand) (y d : Nat) (v : Array Value) (R : Bool → St → Prop) (σ : St) : Prop :=
  σ.ev (.tmp y) = .lit (.func (.yield l) #[] #[]) ∧ (∃ vs : List Value, zs.map σ.ev = vs.map .lit ∧ v = vs.toArray) ∧ d < σ.nt ∧
    SeqL P ops l2 (σ.put (some d) (.lit (.bool true))) (R true) ∧ SeqL P ops l2 (σ.put (some d) (.lit (.bool false))) (R false)
theorem EvY.yieldL {α : Type} {P : Program} {l N : Nat} {encs : α → Array Value} {S0 : Nat → Prop} {J : Bool × List α → (Nat → Prop) → World → Prop} (hR : Rnd P l encs N S0 J) {σ0 : St} {pre : List α} {Q : Exit → St → Bool × List α → Prop}
    {id d y ty : Nat} {zs : List Operand} {ts : Array TypeId} {pos : String} {aft : Array Edge} {l2 : List Oper} (l1 : List Oper) (x : α) (hl : pre.length < N)
    (h : ∀ K : St → Prop, (∀ σ, YP P ⟨l1 ++ ⟨some d, .call { callee := .value (.tmp y), args := ⟨zs⟩, argTypes := ts }, ty, pos, aft, none⟩ :: l2⟩ l l2 zs y d (encs x) (fun b σ' => Q .normal σ' (b, pre ++ [x])) σ → K σ) → SeqL P ⟨l1 ++ ⟨some d, .call { callee := .value (.tmp y), args := ⟨zs⟩, argTypes := ts }, ty, pos, aft, none⟩ :: l2⟩ l1 σ0 K) :
    EvY P S0 J (.region id ⟨l1 ++ ⟨some d, .call { callee := .value (.tmp y), args := ⟨zs⟩, argTypes := ts }, ty, pos, aft, none⟩ :: l2⟩ false) σ0 (true, pre) Q := by
  intro C E0 X0 a0 Z hi hr0
  refine (wpIn_wide (n := 1)).1 (wpIn_region_list (wpL_to l1 _ _ (h _ (fun _ h => h) C E0 X0 a0 hr0 _ ?_)))
  rintro E X σ a hr ⟨hy, hx, hd, ht, hf⟩
  refine ⟨rfl, ?_⟩
  have hk : Keep Z C.w0 E.w := hr.kept.mono hi.own
  have hj := hR.step _ _ _ _ hi.j hk
  obtain ⟨Z1, hZ1⟩ : ∃ Z1, addZ Z C.w0 E.w = Z1 := ⟨_, rfl⟩
  rw [hZ1] at hj
  have hown : ∀ b, C.own b ∨ C.w0.heap.size ≤ b → b < E.w.heap.size → Z1 b := fun b hb hlt => by
    rw [← hZ1]
    rcases hb with hb | hb
    · exact .inl (hi.own b hb)
    · exact .inr ⟨hb, hlt⟩
  have hSZ : ∀ b, E.S b → Z1 b ∨ S0 b := fun b hb => by
    rcases hr.grow b hb with h | h | h
    · rcases hi.S0 b h with h | h
      · rw [← hZ1]; exact .inl (.inl h)
      · exact .inr h
    · exact .inl (hown b (.inr h) (hr.stay b hb).1)
    · exact .inl (hown b (.inl h) (hr.stay b hb).1)
  have hoZ : ∀ r o b, find σ.objs r = some o → blockOf (E.H r) = some b → Z1 b := fun r o b h1 h2 => hown b (hr.mine r o b h1 h2) ((hr.objs r o h1).2.2.1.lt h2)
  obtain ⟨fn, tmps, assign, body, hrun, hround⟩ := hR.round pre Z1 x E.w hj hl
  have hyv := hr.ev (.tmp y)
  rw [hy] at hyv
  simp only [FV] at hyv
  obtain ⟨vs, hvs, hex⟩ := hx
  have hargs : zs.map a.eval = vs := by
    have h1 := hr.evs zs
    rw [hvs] at h1
    have : ∀ (vs : List Value) (xs : List Value), FVs E (vs.map .lit) xs → xs = vs := by
      intro vs
      induction vs with
      | nil => intro xs h; simpa [FVs] using h
      | cons v vs ih =>
        intro xs h
        simp only [List.map_cons, FVs, FV] at h
        obtain ⟨y, ys, rfl, rfl, h2⟩ := h
        rw [ih ys h2]
    exact this vs _ h1
  have fin : ∀ (b : Bool) (B : World), Keep (fun b => ¬ (Z1 b ∨ S0 b)) E.w B → Rel { C.at E σ with w0 := B } { E with w := B } X (σ.put (some d) (.lit (.bool b))) (a.put (some d) (.bool b)) := by
    intro b B hB
    have hle : E.le { E with w := B } := ⟨fun b hb => ⟨hb, hB.block b (hr.stay b hb).1 fun h => h (hSZ b hb)⟩, fun r hr => ⟨hr, rfl, rfl⟩⟩
    have hb : ∀ r o, find σ.objs r = some o → ∀ b, blockOf (E.H r) = some b → B.heap[b]? = E.w.heap[b]? := fun r o h1 b h2 => hB.block b ((hr.objs r o h1).2.2.1.lt h2) fun h => h (.inl (hoZ r o b h1 h2))
    have h0 : Rel { C.at E σ with w0 := B } { E with w := B } X σ a :=
      ⟨fun s v hv => FV.le _ hle _ (hr.slots s v hv), hr.size, hr.defers, fun r o h => ⟨(hr.objs r o h).1, (hr.objs r o h).2.1, (hr.objs r o h).2.2.1.kept (hb r o h), FVr.le _ _ (hle.by _) _ (hr.objs r o h).2.2.2⟩, hr.apart,
        fun b hb => ⟨Nat.lt_of_lt_of_le (hr.stay b hb).1 hB.size, (hr.stay b hb).2⟩, hr.fresh, Keep.refl _ _, fun r o b h1 h2 => .inl ⟨r, o, h1, h2⟩, hr.env, hr.envD, fun b hb => hb, fun b hb => .inl hb, hr.envk, hr.glob.le hle⟩
    exact h0.put (some d) (fun d' e => by cases e; exact hd) (by simp [FV])
  have hin : ∀ (b : Bool) (B : World) g', J g' Z1 B → InY S0 J { C.at E σ with w0 := B } g' Z1 := fun b B g' hj =>
    ⟨hi.dfr, fun b ⟨r, o, h1, h2⟩ => hoZ r o b h1 h2, hSZ, hj⟩
  simp only [wpListIn]
  rw [if_pos (by simp [Region.wanted])]
  refine ⟨fun _ _ => trivial, ?_⟩
  have he : (⟨some d, .call { callee := .value (.tmp y), args := ⟨zs⟩, argTypes := ts }, ty, pos, aft, none⟩ : Oper).semAt Fence.wide.round a.eval = execOp a.eval ⟨some d, .call { callee := .value (.tmp y), args := ⟨zs⟩, argTypes := ts }, ty, pos, aft, none⟩ := rfl
  rw [he]
  have hr1 : (execOp a.eval ⟨some d, .call { callee := .value (.tmp y), args := ⟨zs⟩, argTypes := ts }, ty, pos, aft, none⟩).run P E.w = .ok (.round l fn tmps assign body) E.w := by
    unfold execOp
    simp only [resolve, invoke, Sem.run_bind, Sem.run_pure, Result.andThen_ok, List.map_toArray, hyv, hargs]
    rw [hex] at hrun
    simpa [go_sem] using hrun
  rw [hr1]
  refine ⟨fun h => by simp [Fence.wide] at h, ?_⟩
  refine hround.mono ?_
  have fin2 : ∀ (b : Bool) (B : World), J (b, pre ++ [x]) Z1 B → Keep (fun b => ¬ (Z1 b ∨ S0 b)) E.w B → SeqL P ⟨l1 ++ ⟨some d, .call { callee := .value (.tmp y), args := ⟨zs⟩, argTypes := ts }, ty, pos, aft, none⟩ :: l2⟩ l2 (σ.put (some d) (.lit (.bool b))) (fun σ' => Q .normal σ' (b, pre ++ [x])) →
      wpListIn Fence.wide 1 P ⟨l1 ++ ⟨some d, .call { callee := .value (.tmp y), args := ⟨zs⟩, argTypes := ts }, ty, pos, aft, none⟩ :: l2⟩ (fun e a' w' => ∃ C' E' X' σ' g' Z', E'.w = w' ∧ InY S0 J C' g' Z' ∧ Rel C' E' X' σ' a' ∧ Q e σ' g') l2 (a.put (some d) (.bool b)) B := by
    intro b B hj' hB hs
    have := wpL_to (n := 1) (l2 := []) l2 _ _ (hs _ _ _ _ (fin b B hB) (fun e a' w' => e = .normal ∧ wpListIn Fence.wide 1 P ⟨l1 ++ ⟨some d, .call { callee := .value (.tmp y), args := ⟨zs⟩, argTypes := ts }, ty, pos, aft, none⟩ :: l2⟩ (fun e a' w' => ∃ C' E' X' σ' g' Z', E'.w = w' ∧ InY S0 J C' g' Z' ∧ Rel C' E' X' σ' a' ∧ Q e σ' g') [] a' w')
      (fun E' X' σ' a' h1 h2 => ⟨rfl, by simp only [wpListIn]; exact ⟨_, E', X', σ', _, Z1, rfl, hin b B _ hj', h1, h2⟩⟩))
    rwa [List.append_nil] at this
  rintro e B ⟨hB, ⟨rfl, hj'⟩ | ⟨rfl, hj'⟩⟩
  · exact fin2 true B hj' hB ht
  · exact fin2 false B hj' hB hf
theorem EvY.yieldS {α : Type} {P : Program} {l N : Nat} {encs : α → Array Value} {S0 : Nat → Prop} {J : Bool × List α → (Nat → Prop) → World → Prop} (hR : Rnd P l encs N S0 J) {σ0 : St} {pre : List α} {Q : Exit → St → Bool × List α → Prop}
    {id d y ty : Nat} {zs : List Operand} {ts : Array TypeId} {pos : String} {aft : Array Edge} {l1 : List Oper} (i : Nat) (x : α) (hl : pre.length < N)
    (ho : l1[i]? = some ⟨some d, .call { callee := .value (.tmp y), args := ⟨zs⟩, argTypes := ts }, ty, pos, aft, none⟩)
    (h : ∀ K : St → Prop, (∀ σ, YP P ⟨l1⟩ l (l1.drop (i + 1)) zs y d (encs x) (fun b σ' => Q .normal σ' (b, pre ++ [x])) σ → K σ) → SeqL P ⟨l1⟩ (l1.take i) σ0 K) :
    EvY P S0 J (.region id ⟨l1⟩ false) σ0 (true, pre) Q := by
  obtain ⟨hlt, he⟩ := List.getElem?_eq_some_iff.1 ho
  have e : l1 = l1.take i ++ ⟨some d, .call { callee := .value (.tmp y), args := ⟨zs⟩, argTypes := ts }, ty, pos, aft, none⟩ :: l1.drop (i + 1) := by
    rw [← he, List.getElem_cons_drop, List.take_append_drop]
  have := EvY.yieldL hR (σ0 := σ0) (Q := Q) (id := id) (d := d) (y := y) (ty := ty) (zs := zs) (ts := ts) (pos := pos) (aft := aft) (l2 := l1.drop (i + 1)) (l1.take i) x hl
  rw [← e] at this
  exact this h
theorem EvY.yieldT {α : Type} {P : Program} {l N : Nat} {encs : α → Array Value} {S0 : Nat → Prop} {J : Bool × List α → (Nat → Prop) → World → Prop} (hR : Rnd P l encs N S0 J) {σ0 : St} {pre : List α} {Q : Exit → St → Bool × List α → Prop} {c : Code}
    {id d y ty : Nat} {zs : List Operand} {ts : Array TypeId} {pos : String} {aft : Array Edge} {l1 : List Oper} (i : Nat) (x : α) (hl : pre.length < N)
    (ho : l1[i]? = some ⟨some d, .call { callee := .value (.tmp y), args := ⟨zs⟩, argTypes := ts }, ty, pos, aft, none⟩)
    (h : ∀ K : St → Prop, (∀ σ, YP P ⟨l1⟩ l (l1.drop (i + 1)) zs y d (encs x) (fun b σ' => EvY P S0 J c σ' (b, pre ++ [x]) Q) σ → K σ) → SeqL P ⟨l1⟩ (l1.take i) σ0 K) :
    EvY P S0 J (.seq (.region id ⟨l1⟩ false) c) σ0 (true, pre) Q := EvY.seq (EvY.yieldS hR i x hl ho h)
theorem SeqL.k {P : Program} {ops : Array Oper} {l : List Oper} {σ : St} {Q : St → Prop} (h : ∀ K : St → Prop, (∀ σ', Q σ' → K σ') → SeqL P ops l σ K) : SeqL P ops l σ Q := h Q fun _ h => h
theorem SeqR.of {α : Type} {P : Program} {gf : FuncId} {fn : Func} {c : Code} {caps : List AV} {objs : List (Nat × Obj)} {k N nt : Nat} {encs : α → Array Value} {S Sp : List α → Prop}
    (hf : P.funcs[gf]? = some fn) (hb : fn.body = some c) (ht : fn.ntmps = nt) (hrs : fn.results = #[]) (hnm : (fn.name == "runtime.NumGoroutine") = false) (hn : Nat.ble (caps.length + 1) nt = true)
    (h : ∀ l S0 (J : Bool × List α → (Nat → Prop) → World → Prop), Rnd P l encs N S0 J → EvY P S0 J c ⟨argSlots 0 (.lit (.func (.yield l) #[] #[]) :: caps), objs, k, nt, k⟩ (true, []) (fun e σ' g' => (e = .normal ∨ e = .ret) ∧ (g'.1 = true → S g'.2) ∧ (g'.1 = false → Sp g'.2))) :
    SeqR P gf caps objs k encs S Sp N := SeqR.of_body hf hb hnm hrs (by rw [ht]; exact ble_le hn) (by rw [ht]; exact h)
theorem Fun.ofT {P : Program} {f : FuncId} {fn : Func} {c : Code} {args : List AV} {Post : AV → List (Nat × Obj) → Prop} {nt : Nat} {rs : List ResultVar} (hf : P.funcs[f]? = some fn) (hb : fn.body = some c) (ht : fn.ntmps = nt)
    (hr : fn.results.toList = rs) (hnm : (fn.name == "runtime.NumGoroutine") = false) (hn : Nat.ble args.length nt = true) (h : EvT P c ⟨argSlots 0 args, [], 0, nt, 0⟩ (endP P rs Post)) : Fun P f args Post :=
  Fun.of_bodyT hf hb hnm (by rw [ht]; exact ble_le hn) (by rw [ht, hr]; exact h)
theorem h0_app {l m : List (Nat × Obj)} {rs : List Nat} (h : rs.all (fun r => (find l r).isNone) = true) : ∀ r q, find l r = some q → find (l ++ m) r = some q ∧ r ∉ rs := fun r q hf => by
  refine ⟨by rw [find_append, hf]; rfl, fun hm => ?_⟩
  have := List.all_eq_true.1 h r hm
  rw [hf] at this
  cases this
section
variable {P : Program} {s : List (Nat × AV)} {b : List (Nat × Obj)} {n t e : Nat}
theorem WkU (rs : List Nat) (ks : List Nat) {kept : List (Nat × AV)} (U : List (Nat × AV)) (O : List (Nat × Obj)) (hk : Kept (pos rs 0) s ks kept) (hO : keepObjs ⟨s, b, n, t, e⟩ (pos rs 0) 0 rs = some O) (hU : slotsRen (pos rs 0) ⟨s, b, n, t, e⟩ U) (hnd : rs.Nodup := by decide) (hl : ∀ i, i < e → rs[i]? = some i := by decide) :
    Wk ⟨s, b, n, t, e⟩ ⟨U ++ kept, O, rs.length, t, e⟩ := Wk.ren rs hnd (slotsRen_append hU hk.ren) hO rfl rfl rfl hl
theorem roundQ_n {α : Type} {O : List α → List (Nat × Obj)} {QX : List α → List (Nat × Obj) → Prop} {n0 : Nat} {xs : List α} (rs : List Nat) (hO : keepR ⟨s, b, n, t, e⟩ (pos rs 0) e 0 rs = some (O xs)) (hn : rs.length ≤ n0) (hnd : rs.Nodup) (hl : leads e rs) : roundQ O QX n0 t e xs .normal ⟨s, b, n, t, e⟩ :=
  ⟨rs.length, hn, Wk.renR rs hnd trivial hO rfl rfl rfl hl⟩
theorem EvI.rtp {l0 n0 : Nat} {Q : Exit → St → Prop} {ops : List Oper} {id m : Nat} {L0 : Array Bool} (hlen : ops.length = m) (h4 : Array.replicate ops.length false = L0) (hm : P.follows .mixedOrders = true)
    (h : ∀ Kt : St → Prop, (∀ σ', Q .normal σ' → Kt σ') → HP P ops m L0 ⟨s, b, n, t, e⟩ Kt) (hd : ops.all noDefer = true := by exact rfl) : EvI P l0 n0 (.region id ⟨ops⟩ true) ⟨s, b, n, t, e⟩ Q := EvI.rtpB hd hlen h4 hm h
end
end Go.AM
