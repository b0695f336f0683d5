/-
  Part 11 of the proof: the abstract machine, proved sound over the model.
  Conditions: none.
-/
import Derived.RangeFuncCalls
import Derived.RangeFuncIn
import Derived.RangeFuncLeaves
import Derived.OrdersIn
import Derived.TacticsIn
import Derived.Test.YtlpgjlnkfgacbaaGreatX10
set_option linter.unusedVariables false
set_option linter.unusedSimpArgs false
set_option linter.unusedSectionVars false
namespace Go.AM
abbrev rnd (l : Nat) : Fence := Fence.wide.inRound l
theorem rows_in {n l : Nat} {P : Program} {row : String} {args : Array Value} {w : World} {R : Value → World → Prop} (h : Rows P row args w R) : RowsIn (rnd l) n P row args w R :=
  fun c cs _ => let ⟨v, w', r, s⟩ := h c cs; ⟨v, w', r, stepsIn_wide.2 s⟩
def noDefer (o : Oper) : Bool := match o.op with
  | .defer _ => false
  | _ => true
theorem noDefer_spec {o : Oper} (h : noDefer o = true) : ∀ c, o.op ≠ .defer c := fun c e => by
  unfold noDefer at h
  rw [e] at h
  cases h
theorem oper_in {l n : Nat} {P : Program} {o : Oper} {a : Act} {w : World} {K : Act → World → Prop} {Q : Exit → Act → World → Prop} (hd : noDefer o = true) (h : o.wp P a w K Q) : o.wpIn (rnd l) n P a w K Q := by
  refine ⟨fun _ _ => trivial, ?_⟩; have e : o.semAt (rnd l).round a.eval = execOp a.eval o := Oper.semAt_some l _ _ (noDefer_spec hd); rw [e]
  unfold Oper.wp at h
  generalize (execOp a.eval o).run P w = r at *
  cases r with
  | ok x w' =>
    cases x <;> simp only [Oper.upon, Oper.uponIn] at h ⊢
    case value u => exact h
    case skip => exact h
    case defer d => exact h
    case enter f args => exact ⟨fun h0 => by simp [rnd, Fence.wide] at h0, CallsIn.inRound l (callsIn_wide.2 h)⟩
    case row row args => exact ⟨fun h0 => by simp [rnd, Fence.wide] at h0, rows_in h⟩
  | halt x w' => cases x <;> simp only [Oper.upon, Oper.uponIn] at h ⊢ <;> exact h
theorem wpL_in {l n : Nat} {P : Program} {ops : Array Oper} {Q : Exit → Act → World → Prop} : ∀ (rest : List Oper) (a : Act) (w : World), (∀ o ∈ rest, noDefer o = true) → wpL P ops Q rest a w → wpListIn (rnd l) n P ops Q rest a w
  | [], a, w, _, h => by rw [wpL_nil] at h; exact h
  | o :: rest, a, w, hd, h => by
    rw [wpL_cons] at h; simp only [wpListIn]
    split at h
    · rename_i hw
      rw [if_pos hw]; exact oper_in (hd o (by simp)) (Oper.wp_mono (fun a' w' h' => wpL_in rest a' w' (fun o ho => hd o (by simp [ho])) h') h)
    · rename_i hw
      rw [if_neg hw]; exact ⟨fun _ _ => trivial, wpL_in rest _ _ (fun o ho => hd o (by simp [ho])) h⟩
def EvI (P : Program) (l n : Nat) (c : Code) (σ : St) (Q : Exit → St → Prop) : Prop :=
  ∀ C E X a, Rel C E X σ a → c.wpIn (rnd l) n P (fun e a' w' => ∃ E' X' σ', E'.w = w' ∧ Rel C E' X' σ' a' ∧ Q e σ') a E.w
section
variable {P : Program} {l n : Nat} {σ : St} {Q : Exit → St → Prop}
theorem EvI.weaken {c : Code} {σ' : St} (hw : Wk σ σ') (h : EvI P l n c σ' Q) : EvI P l n c σ Q := by
  intro C E X a hr; obtain ⟨E', X', e, hr'⟩ := hw C E X a hr; rw [← e]; exact h C E' X' a hr'
theorem EvI.region {id : Nat} {ops : List Oper} (hd : ops.all noDefer = true) (h : SeqL P ⟨ops⟩ ops σ (Q .normal)) : EvI P l n (.region id ⟨ops⟩ false) σ Q := by
  intro C E X a hr; exact wpIn_region_list (wpL_in _ _ _ (fun o ho => List.all_eq_true.1 hd o ho) (h C E X a hr _ fun E' X' σ' a' h1 h2 => ⟨E', X', σ', rfl, h1, h2⟩))
theorem EvI.block {id : Nat} {c : Code} (h : EvI P l n c σ (inBlockP id Q)) : EvI P l n (.block id c) σ Q := by
  intro C E X a hr; refine wpIn_block (wpIn_mono (h C E X a hr) ?_); rintro e a' w' ⟨E', X', σ', rfl, h2, h3⟩
  cases e <;> simp only [Exit.inBlock, inBlockP] at h3 ⊢
  case exit id' =>
    split
    · rename_i e
      simp only [e, if_true] at h3; exact ⟨E', X', σ', rfl, h2, h3⟩
    · rename_i e
      simp only [e, if_false] at h3; exact ⟨E', X', σ', rfl, h2, h3⟩
  all_goals exact ⟨E', X', σ', rfl, h2, h3⟩
end
end Go.AM
