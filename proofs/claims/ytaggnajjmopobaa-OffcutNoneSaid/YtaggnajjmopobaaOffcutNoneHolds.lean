/-
  The statement OffcutNone: for every input the law returns true and its arguments read as before.
  Conditions: none.
-/
import Derived.Test.YtaggnajjmopobaaOfm
import Derived.Test.YtaggnajjmopobaaOpenb
import Derived.Test.YtaggnajjmopobaaAmFactl
import Derived.Test.YtaggnajjmopobaaAmLaw
import Derived.Test.YtaggnajjmopobaaOpen
namespace Go.Proofs.Ytaggnajjmopobaa
open Go Go.AM
set_option linter.unusedSimpArgs false
set_option linter.unusedVariables false
set_option maxRecDepth 100000
open Go.ChangeShapes Go.WideShapes Go.RowKit

theorem offcutNone_lifted (os : Os) (started : os.Started) (H : Type) (enc : TypeId × Value → H) :
    ReturnsInHanded {} Try.checked os 4 .any (Rows.offcutNoneSpec.pre6 enc Try.prog Try.f4 Rows.offcutNoneRow.domain false) (Rows.offcutNoneSpec.post enc Try.prog Try.f4 false true false false) := by
  refine law_lifted (C := Try.checked) (s := Rows.offcutNoneSpec) (ts := [33]) (tb := 4) am_own started (by kernel_rfl) Try.func4
    (ChangeSpec.witness6 (enc := enc) (C := Try.checked) false ⟨#[], #[.agg #[.int .i64 0, .int .i64 0, .int .i64 0, .slice none 0 0]], []⟩ 8 (by kernel_rfl) (by kernel_rfl) (by kernel_rfl) (by kernel_rfl)) am_laid rfl rfl (by kernel_rfl) rfl (by kernel_rfl) (by kernel_rfl) ?_ ?_
  · intro ds h
    match ds, h with
    | [d0], _ => rfl
  · intro avs h0
    have h : WTA Try.prog [33] avs := h0
    clear h0
    show Fun Try.prog 4 avs _
    obtain ⟨r0, l0, rfl, k0, h⟩ := h.cons_inv
    obtain rfl := h.nil_inv
    obtain ⟨v0, rfl, hl0⟩ := open_act1 k0
    rw [argAV_agg am_ag33]
    exact none_law v0 hl0
theorem offcutNone_holds : Rows.OffcutNoneSaid :=
  OpenClaim.holds_of_wide 4 Try.f4 rfl rfl rfl rfl rfl rfl rfl ⟨rfl, rfl, rfl, rfl, rfl⟩ rfl rfl rfl rfl rfl (by kernel_rfl) Try.func4 (by kernel_rfl)
    (of_decide_eq_true (by kernel_rfl)) (by unfold Func.isWrapper; first | (rw [if_pos (by decide +kernel)]; kernel_rfl) | (rw [if_neg (by decide +kernel)]; exact ⟨rfl, rfl⟩))
    (fun os started H enc _ => offcutNone_lifted os started H enc)

#print axioms offcutNone_holds
end Go.Proofs.Ytaggnajjmopobaa
