/-
  The statement OffcutDoes: for every input the law returns true and its arguments read as before.
  Conditions: none.
-/
import Derived.Test.YtaggnajjmopobaaOfm
import Derived.Test.YtaggnajjmopobaaOpena
import Derived.Test.YtaggnajjmopobaaAmFactl
import Derived.Test.YtaggnajjmopobaaAmLaw
import Derived.Test.YtaggnajjmopobaaOpen
namespace Go.Proofs.Ytaggnajjmopobaa
open Go Go.AM
set_option linter.unusedSimpArgs false
set_option linter.unusedVariables false
set_option maxRecDepth 100000
open Go.ChangeShapes Go.WideShapes Go.RowKit

theorem offcutDoes_lifted (os : Os) (started : os.Started) (H : Type) (enc : TypeId × Value → H) :
    ReturnsInHanded {} Try.checked os 3 .any (Rows.offcutDoesSpec.pre6 enc Try.prog Try.f3 Rows.offcutDoesRow.domain false) (Rows.offcutDoesSpec.post enc Try.prog Try.f3 false true false false) := by
  refine law_lifted (C := Try.checked) (s := Rows.offcutDoesSpec) (ts := [3, 22]) (tb := 4) am_own started (by kernel_rfl) Try.func3
    (ChangeSpec.witness6 (enc := enc) (C := Try.checked) false ⟨#[], #[.int .i64 0, .slice none 0 0], []⟩ 8 (by kernel_rfl) (by kernel_rfl) (by kernel_rfl) (by kernel_rfl)) am_laid rfl rfl (by kernel_rfl) rfl (by kernel_rfl) (by kernel_rfl) ?_ ?_
  · intro ds h
    match ds, h with
    | [d0, d1], _ => rfl
  · intro avs h0
    have h : WTA Try.prog [3, 22] avs := h0
    clear h0
    show Fun Try.prog 3 avs _
    obtain ⟨r0, l0, rfl, k0, h⟩ := h.cons_inv
    obtain ⟨r1, l1, rfl, k1, h⟩ := h.cons_inv
    obtain rfl := h.nil_inv
    obtain ⟨v0, rfl, hi0⟩ := k0.int_inv am_un3
    obtain ⟨v1, rfl, hl1, hw1⟩ := open_acts k1
    rw [argAV_one am_ag3, argAV_one am_ag22]
    exact does_law v0 v1 hl1 hw1
theorem offcutDoes_holds : Rows.OffcutDoesSaid :=
  OpenClaim.holds_of_wide 3 Try.f3 rfl rfl rfl rfl rfl rfl rfl ⟨rfl, rfl, rfl, rfl, rfl⟩ rfl rfl rfl rfl rfl (by kernel_rfl) Try.func3 (by kernel_rfl)
    (of_decide_eq_true (by kernel_rfl)) (by unfold Func.isWrapper; first | (rw [if_pos (by decide +kernel)]; kernel_rfl) | (rw [if_neg (by decide +kernel)]; exact ⟨rfl, rfl⟩))
    (fun os started H enc _ => offcutDoes_lifted os started H enc)

#print axioms offcutDoes_holds
end Go.Proofs.Ytaggnajjmopobaa
