/-
  The statement StockFits: for every input the law returns true and its arguments read as before.
  Conditions: none.
-/
import Derived.Test.YtckahagagfmpbaaSw4
import Derived.Test.YtckahagagfmpbaaAmFactl
import Derived.Test.YtckahagagfmpbaaAmLaw
import Derived.Test.YtckahagagfmpbaaOpen
namespace Go.Proofs.Ytckahagagfmpbaa
open Go Go.AM
set_option linter.unusedSimpArgs false
set_option linter.unusedVariables false
set_option maxRecDepth 100000
open Go.ChangeShapes Go.WideShapes Go.RowKit

theorem stockFits_lifted (os : Os) (started : os.Started) (H : Type) (enc : TypeId × Value → H) :
    ReturnsInHanded {} Try.checked os 4 .any (Rows.stockFitsSpec.pre6 enc Try.prog Try.f4 Rows.stockFitsRow.domain false) (Rows.stockFitsSpec.post enc Try.prog Try.f4 false true false false) := by
  refine law_lifted (C := Try.checked) (s := Rows.stockFitsSpec) (ts := [22, 23, 5]) (tb := 4) am_own started (by kernel_rfl) Try.func4
    (ChangeSpec.witness6 (enc := enc) (C := Try.checked) false ⟨#[], #[.slice none 0 0, .slice none 0 0, .int .u8 0], []⟩ 8 (by kernel_rfl) (by kernel_rfl) (by kernel_rfl) (by kernel_rfl)) am_laid rfl rfl (by kernel_rfl) rfl (by kernel_rfl) (by kernel_rfl) ?_ ?_
  · intro ds h
    match ds, h with
    | [d0, d1, d2], _ => rfl
  · intro avs h0
    have h : WTA Try.prog [22, 23, 5] avs := h0
    clear h0
    show Fun Try.prog 4 avs _
    obtain ⟨r0, l0, rfl, k0, h⟩ := h.cons_inv
    obtain ⟨r1, l1, rfl, k1, h⟩ := h.cons_inv
    obtain ⟨r2, l2, rfl, k2, h⟩ := h.cons_inv
    obtain rfl := h.nil_inv
    obtain ⟨v0, rfl, hl0⟩ := open_stocks k0
    obtain ⟨v1, rfl, hl1⟩ := open_pieces k1
    obtain ⟨v2, rfl, hi2⟩ := k2.int_inv am_un5
    rw [argAV_one am_ag22, argAV_one am_ag23, argAV_one am_ag5]
    exact fits_law v0 v1 v2 hl0 hl1 hi2
theorem stockFits_holds : Rows.StockFitsSaid :=
  OpenClaim.holds_of_wide 4 Try.f4 rfl rfl rfl rfl rfl rfl rfl ⟨rfl, rfl, rfl, rfl, rfl⟩ rfl rfl rfl rfl rfl (by kernel_rfl) Try.func4 (by kernel_rfl)
    (of_decide_eq_true (by kernel_rfl)) (by unfold Func.isWrapper; first | (rw [if_pos (by decide +kernel)]; kernel_rfl) | (rw [if_neg (by decide +kernel)]; exact ⟨rfl, rfl⟩))
    (fun os started H enc _ => stockFits_lifted os started H enc)

#print axioms stockFits_holds
end Go.Proofs.Ytckahagagfmpbaa
