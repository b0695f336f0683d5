/-
  The abstract machine, continued: functions of the library that change a slice in place, by the kit's contracts.
  Conditions: none; generic over the program.
-/
import Derived.Test.YtnbjmckhongidaaGreatDoorAmRes
import Derived.Shelf.SlicesQ.Reverse
namespace Go.AM
open Go.Proofs Go.Lib Go.Sort
set_option linter.unusedVariables false
set_option linter.unusedSimpArgs false
set_option linter.unusedSectionVars false

/-- The cells of one element. -/
abbrev CV (k : Nat) : Type := {l : List Value // l.length = k ∧ ∀ v ∈ l, v.oneCell' = true}
instance (k : Nat) : Inhabited (CV k) := ⟨⟨List.replicate k (.bool false), by simp, fun v hv => by rw [List.eq_of_mem_replicate hv]; rfl⟩⟩
/-- Rows and their cells, element by element. -/
def ZR (E : Env) (sz : Nat) : List (List AV) → List (CV sz) → Prop
  | [], [] => True
  | r :: rs, c :: cs => (r.length = sz ∧ FVc E r c.1) ∧ ZR E sz rs cs
  | _, _ => False
theorem ZR.length {E : Env} {sz : Nat} : ∀ {rows : List (List AV)} {cs : List (CV sz)}, ZR E sz rows cs → cs.length = rows.length
  | [], [], _ => rfl
  | _ :: rs, _ :: cs, h => by simp [ZR.length h.2]
theorem rel0 {E : Env} {X : Nat → List Value} {objs : List (Nat × Obj)} {k : Nat} (hE : Entry E X objs k) : Rel (ctxOf E objs k) E X ⟨[(0, .tup [])], objs, k, 1, k⟩ { tmps := #[.tuple #[]], defers := [] } := by
  refine ⟨?_, rfl, rfl, ?_, hE.apart, hE.stay, ?_, Keep.refl _ _, ?_, ?_, ?_, fun b hb => hb, fun b hb => .inl hb, rfl, hE.glob⟩
  · intro s v hv
    rw [find_cons] at hv
    split at hv
    · rename_i e
      subst e
      simp only [Option.some.injEq] at hv
      subst hv
      simp [FV, FVs]
    · simp [find] at hv
  · intro r o hr
    obtain ⟨h1, h2⟩ := hE.objs r o hr
    exact ⟨(hE.dom r).2 h1, h2⟩
  · intro r hr; exact (hE.dom r).1 hr
  · intro r o b hr hb; exact .inl ⟨r, o, hr, hb⟩
  · intro r hr; exact ⟨rfl, rfl⟩
  · intro r hr; exact (hE.dom r).2 hr
end Go.AM
