/-
  The statement StockSame: for every input the law returns true and its arguments read as before.
  Conditions: none.
-/
import Derived.Test.YtckahagagfmpbaaRp6
import Derived.Test.YtckahagagfmpbaaAmFactl
import Derived.Test.YtckahagagfmpbaaAmLaw
import Derived.Test.YtckahagagfmpbaaOpen
namespace Go.Proofs.Ytckahagagfmpbaa
open Go Go.AM
set_option linter.unusedSimpArgs false
set_option linter.unusedVariables false
set_option maxRecDepth 100000
open Go.ChangeShapes Go.WideShapes Go.RowKit

theorem stockSame_lifted (os : Os) (started : os.Started) (H : Type) (enc : TypeId × Value → H) :
    ReturnsInHanded {} Try.checked os 8 .any (Rows.stockSameSpec.pre6 enc Try.prog Try.f8 Rows.stockSameRow.domain false) (Rows.stockSameSpec.post enc Try.prog Try.f8 false true false false) := by
  refine law_lifted (C := Try.checked) (s := Rows.stockSameSpec) (ts := [23]) (tb := 4) am_own started (by kernel_rfl) Try.func8
    (ChangeSpec.witness6 (enc := enc) (C := Try.checked) false ⟨#[], #[.slice none 0 0], []⟩ 8 (by kernel_rfl) (by kernel_rfl) (by kernel_rfl) (by kernel_rfl)) am_laid rfl rfl (by kernel_rfl) rfl (by kernel_rfl) (by kernel_rfl) ?_ ?_
  · intro ds h
    match ds, h with
    | [d0], _ => rfl
  · intro avs h0
    have h : WTA Try.prog [23] avs := h0
    clear h0
    show Fun Try.prog 8 avs _
    obtain ⟨r0, l0, rfl, k0, h⟩ := h.cons_inv
    obtain rfl := h.nil_inv
    obtain ⟨v0, rfl, hl0⟩ := open_pieces k0
    rw [argAV_one am_ag23]
    exact same_law v0 hl0
theorem stockSame_holds : Rows.StockSameSaid :=
  OpenClaim.holds_of_wide 8 Try.f8 rfl rfl rfl rfl rfl rfl rfl ⟨rfl, rfl, rfl, rfl, rfl⟩ rfl rfl rfl rfl rfl (by kernel_rfl) Try.func8 (by kernel_rfl)
    (of_decide_eq_true (by kernel_rfl)) (by unfold Func.isWrapper; first | (rw [if_pos (by decide +kernel)]; kernel_rfl) | (rw [if_neg (by decide +kernel)]; exact ⟨rfl, rfl⟩))
    (fun os started H enc _ => stockSame_lifted os started H enc)

#print axioms stockSame_holds
end Go.Proofs.Ytckahagagfmpbaa
