/-
  The statement StockForms: for every input the law returns true and its arguments read as before.
  Conditions: none.
-/
import Derived.Test.YtckahagagfmpbaaSw1
import Derived.Test.YtckahagagfmpbaaAmFactl
import Derived.Test.YtckahagagfmpbaaAmLaw
import Derived.Test.YtckahagagfmpbaaOpen
namespace Go.Proofs.Ytckahagagfmpbaa
open Go Go.AM
set_option linter.unusedSimpArgs false
set_option linter.unusedVariables false
set_option maxRecDepth 100000
open Go.ChangeShapes Go.WideShapes Go.RowKit

theorem stockForms_lifted (os : Os) (started : os.Started) (H : Type) (enc : TypeId × Value → H) :
    ReturnsInHanded {} Try.checked os 3 .any (Rows.stockFormsSpec.pre6 enc Try.prog Try.f3 Rows.stockFormsRow.domain false) (Rows.stockFormsSpec.post enc Try.prog Try.f3 false true false false) := by
  refine law_lifted (C := Try.checked) (s := Rows.stockFormsSpec) (ts := [22, 23]) (tb := 4) am_own started (by kernel_rfl) Try.func3
    (ChangeSpec.witness6 (enc := enc) (C := Try.checked) false ⟨#[], #[.slice none 0 0, .slice none 0 0], []⟩ 8 (by kernel_rfl) (by kernel_rfl) (by kernel_rfl) (by kernel_rfl)) am_laid rfl rfl (by kernel_rfl) rfl (by kernel_rfl) (by kernel_rfl) ?_ ?_
  · intro ds h
    match ds, h with
    | [d0, d1], _ => rfl
  · intro avs h0
    have h : WTA Try.prog [22, 23] avs := h0
    clear h0
    show Fun Try.prog 3 avs _
    obtain ⟨r0, l0, rfl, k0, h⟩ := h.cons_inv
    obtain ⟨r1, l1, rfl, k1, h⟩ := h.cons_inv
    obtain rfl := h.nil_inv
    obtain ⟨v0, rfl, hl0⟩ := open_stocks k0
    obtain ⟨v1, rfl, hl1⟩ := open_pieces k1
    rw [argAV_one am_ag22, argAV_one am_ag23]
    exact forms_law v0 v1 hl0 hl1
theorem stockForms_holds : Rows.StockFormsSaid :=
  OpenClaim.holds_of_wide 3 Try.f3 rfl rfl rfl rfl rfl rfl rfl ⟨rfl, rfl, rfl, rfl, rfl⟩ rfl rfl rfl rfl rfl (by kernel_rfl) Try.func3 (by kernel_rfl)
    (of_decide_eq_true (by kernel_rfl)) (by unfold Func.isWrapper; first | (rw [if_pos (by decide +kernel)]; kernel_rfl) | (rw [if_neg (by decide +kernel)]; exact ⟨rfl, rfl⟩))
    (fun os started H enc _ => stockForms_lifted os started H enc)

#print axioms stockForms_holds
end Go.Proofs.Ytckahagagfmpbaa
