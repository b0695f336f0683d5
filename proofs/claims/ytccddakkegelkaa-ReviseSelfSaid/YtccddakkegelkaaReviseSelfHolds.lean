/-
  The statement ReviseSelf: for every input the law returns true and its arguments read as before.
  Conditions: none.
-/
import Derived.Test.YtccddakkegelkaaRev22
import Derived.Test.YtccddakkegelkaaOpen
namespace Go.Proofs.Ytccddakkegelkaa
open Go Go.AM
set_option linter.unusedSimpArgs false
set_option linter.unusedVariables false
set_option maxRecDepth 100000
open Go.ChangeShapes Go.WideShapes Go.RowKit

theorem reviseSelf_lifted (os : Os) (started : os.Started) (H : Type) (enc : TypeId × Value → H) :
    ReturnsInHanded {} Try.checked os 6 .any (Rows.reviseSelfSpec.pre6 enc Try.prog Try.f6 Rows.reviseSelfRow.domain false) (Rows.reviseSelfSpec.post enc Try.prog Try.f6 false true false false) := by
  refine law_lifted (C := Try.checked) (s := Rows.reviseSelfSpec) (ts := [22]) (tb := 4) am_own started (by kernel_rfl) Try.func6
    (ChangeSpec.witness6 (enc := enc) (C := Try.checked) false ⟨#[], #[.slice none 0 0], []⟩ 8 (by kernel_rfl) (by kernel_rfl) (by kernel_rfl) (by kernel_rfl)) am_laid rfl rfl (by kernel_rfl) rfl (by kernel_rfl) (by kernel_rfl) ?_ ?_
  · intro ds h
    match ds, h with
    | [d0], _ => rfl
  · intro avs h0
    have h : WTA Try.prog [22] avs := h0
    clear h0
    show Fun Try.prog 6 avs _
    obtain ⟨r0, l0, rfl, k0, h⟩ := h.cons_inv
    obtain rfl := h.nil_inv
    obtain ⟨v0, rfl, hl0, hw0⟩ := open_bars k0
    rw [argAV_one am_ag22]
    exact self_law v0 hl0 hw0
theorem reviseSelf_holds : Rows.ReviseSelfSaid :=
  OpenClaim.holds_of_wide 6 Try.f6 rfl rfl rfl rfl rfl rfl rfl ⟨rfl, rfl, rfl, rfl, rfl⟩ rfl rfl rfl rfl rfl (by kernel_rfl) Try.func6 (by kernel_rfl)
    (of_decide_eq_true (by kernel_rfl)) (by unfold Func.isWrapper; first | (rw [if_pos (by decide +kernel)]; kernel_rfl) | (rw [if_neg (by decide +kernel)]; exact ⟨rfl, rfl⟩))
    (fun os started H enc _ => reviseSelf_lifted os started H enc)

#print axioms reviseSelf_holds
end Go.Proofs.Ytccddakkegelkaa
