/-
  The statement ReviseTurned: for every input the law returns true and its arguments read as before.
  Conditions: none.
-/
import Derived.Test.YtccddakkegelkaaRev20
import Derived.Test.YtccddakkegelkaaOpen
namespace Go.Proofs.Ytccddakkegelkaa
open Go Go.AM
set_option linter.unusedSimpArgs false
set_option linter.unusedVariables false
set_option maxRecDepth 100000
open Go.ChangeShapes Go.WideShapes Go.RowKit

theorem reviseTurned_lifted (os : Os) (started : os.Started) (H : Type) (enc : TypeId × Value → H) :
    ReturnsInHanded {} Try.checked os 4 .any (Rows.reviseTurnedSpec.pre6 enc Try.prog Try.f4 Rows.reviseTurnedRow.domain false) (Rows.reviseTurnedSpec.post enc Try.prog Try.f4 false true false false) := by
  refine law_lifted (C := Try.checked) (s := Rows.reviseTurnedSpec) (ts := [22, 22]) (tb := 4) am_own started (by kernel_rfl) Try.func4
    (ChangeSpec.witness6 (enc := enc) (C := Try.checked) false ⟨#[], #[.slice none 0 0, .slice none 0 0], []⟩ 8 (by kernel_rfl) (by kernel_rfl) (by kernel_rfl) (by kernel_rfl)) am_laid rfl rfl (by kernel_rfl) rfl (by kernel_rfl) (by kernel_rfl) ?_ ?_
  · intro ds h
    match ds, h with
    | [d0, d1], _ => rfl
  · intro avs h0
    have h : WTA Try.prog [22, 22] avs := h0
    clear h0
    show Fun Try.prog 4 avs _
    obtain ⟨r0, l0, rfl, k0, h⟩ := h.cons_inv
    obtain ⟨r1, l1, rfl, k1, h⟩ := h.cons_inv
    obtain rfl := h.nil_inv
    obtain ⟨v0, rfl, hl0, hw0⟩ := open_bars k0
    obtain ⟨v1, rfl, hl1, hw1⟩ := open_bars k1
    rw [argAV_one am_ag22, argAV_one am_ag22]
    exact turned_law v0 v1 hl0 hw0 hl1 hw1
theorem reviseTurned_holds : Rows.ReviseTurnedSaid :=
  OpenClaim.holds_of_wide 4 Try.f4 rfl rfl rfl rfl rfl rfl rfl ⟨rfl, rfl, rfl, rfl, rfl⟩ rfl rfl rfl rfl rfl (by kernel_rfl) Try.func4 (by kernel_rfl)
    (of_decide_eq_true (by kernel_rfl)) (by unfold Func.isWrapper; first | (rw [if_pos (by decide +kernel)]; kernel_rfl) | (rw [if_neg (by decide +kernel)]; exact ⟨rfl, rfl⟩))
    (fun os started H enc _ => reviseTurned_lifted os started H enc)

#print axioms reviseTurned_holds
end Go.Proofs.Ytccddakkegelkaa
