/-
  The statement OffcutPuts: for every input the law returns true and its arguments read as before.
  Conditions: none.
-/
import Derived.Test.YtaggnajjmopobaaOf9
import Derived.Test.YtaggnajjmopobaaOpena
import Derived.Test.YtaggnajjmopobaaAmFactl
import Derived.Test.YtaggnajjmopobaaAmLaw
import Derived.Test.YtaggnajjmopobaaOpen
namespace Go.Proofs.Ytaggnajjmopobaa
open Go Go.AM
set_option linter.unusedSimpArgs false
set_option linter.unusedVariables false
set_option maxRecDepth 100000
open Go.ChangeShapes Go.WideShapes Go.RowKit

theorem offcutPuts_lifted (os : Os) (started : os.Started) (H : Type) (enc : TypeId × Value → H) :
    ReturnsInHanded {} Try.checked os 6 .any (Rows.offcutPutsSpec.pre6 enc Try.prog Try.f6 Rows.offcutPutsRow.domain false) (Rows.offcutPutsSpec.post enc Try.prog Try.f6 false true false false) := by
  refine law_lifted (C := Try.checked) (s := Rows.offcutPutsSpec) (ts := [3, 22, 3, 3]) (tb := 4) am_own started (by kernel_rfl) Try.func6
    (ChangeSpec.witness6 (enc := enc) (C := Try.checked) false ⟨#[], #[.int .i64 0, .slice none 0 0, .int .i64 0, .int .i64 0], []⟩ 8 (by kernel_rfl) (by kernel_rfl) (by kernel_rfl) (by kernel_rfl)) am_laid rfl rfl (by kernel_rfl) rfl (by kernel_rfl) (by kernel_rfl) ?_ ?_
  · intro ds h
    match ds, h with
    | [d0, d1, d2, d3], _ => rfl
  · intro avs h0
    have h : WTA Try.prog [3, 22, 3, 3] avs := h0
    clear h0
    show Fun Try.prog 6 avs _
    obtain ⟨r0, l0, rfl, k0, h⟩ := h.cons_inv
    obtain ⟨r1, l1, rfl, k1, h⟩ := h.cons_inv
    obtain ⟨r2, l2, rfl, k2, h⟩ := h.cons_inv
    obtain ⟨r3, l3, rfl, k3, h⟩ := h.cons_inv
    obtain rfl := h.nil_inv
    obtain ⟨v0, rfl, hi0⟩ := k0.int_inv am_un3
    obtain ⟨v1, rfl, hl1, hw1⟩ := open_acts k1
    obtain ⟨v2, rfl, hi2⟩ := k2.int_inv am_un3
    obtain ⟨v3, rfl, hi3⟩ := k3.int_inv am_un3
    rw [argAV_one am_ag3, argAV_one am_ag22, argAV_one am_ag3, argAV_one am_ag3]
    exact puts_law v0 v1 v2 v3 hl1 hw1
theorem offcutPuts_holds : Rows.OffcutPutsSaid :=
  OpenClaim.holds_of_wide 6 Try.f6 rfl rfl rfl rfl rfl rfl rfl ⟨rfl, rfl, rfl, rfl, rfl⟩ rfl rfl rfl rfl rfl (by kernel_rfl) Try.func6 (by kernel_rfl)
    (of_decide_eq_true (by kernel_rfl)) (by unfold Func.isWrapper; first | (rw [if_pos (by decide +kernel)]; kernel_rfl) | (rw [if_neg (by decide +kernel)]; exact ⟨rfl, rfl⟩))
    (fun os started H enc _ => offcutPuts_lifted os started H enc)

#print axioms offcutPuts_holds
end Go.Proofs.Ytaggnajjmopobaa
