/-
  The statement OffcutServes: for every input the law returns true and its arguments read as before.
  Conditions: none.
-/
import Derived.Test.YtaggnajjmopobaaOfb
import Derived.Test.YtaggnajjmopobaaOpena
import Derived.Test.YtaggnajjmopobaaAmFactl
import Derived.Test.YtaggnajjmopobaaAmLaw
import Derived.Test.YtaggnajjmopobaaOpen
namespace Go.Proofs.Ytaggnajjmopobaa
open Go Go.AM
set_option linter.unusedSimpArgs false
set_option linter.unusedVariables false
set_option maxRecDepth 100000
open Go.ChangeShapes Go.WideShapes Go.RowKit

theorem offcutServes_lifted (os : Os) (started : os.Started) (H : Type) (enc : TypeId × Value → H) :
    ReturnsInHanded {} Try.checked os 7 .any (Rows.offcutServesSpec.pre6 enc Try.prog Try.f7 Rows.offcutServesRow.domain false) (Rows.offcutServesSpec.post enc Try.prog Try.f7 false true false false) := by
  refine law_lifted (C := Try.checked) (s := Rows.offcutServesSpec) (ts := [3, 22, 28]) (tb := 4) am_own started (by kernel_rfl) Try.func7
    (ChangeSpec.witness6 (enc := enc) (C := Try.checked) false ⟨#[], #[.int .i64 0, .slice none 0 0, .slice none 0 0], []⟩ 8 (by kernel_rfl) (by kernel_rfl) (by kernel_rfl) (by kernel_rfl)) am_laid rfl rfl (by kernel_rfl) rfl (by kernel_rfl) (by kernel_rfl) ?_ ?_
  · intro ds h
    match ds, h with
    | [d0, d1, d2], _ => rfl
  · intro avs h0
    have h : WTA Try.prog [3, 22, 28] avs := h0
    clear h0
    show Fun Try.prog 7 avs _
    obtain ⟨r0, l0, rfl, k0, h⟩ := h.cons_inv
    obtain ⟨r1, l1, rfl, k1, h⟩ := h.cons_inv
    obtain ⟨r2, l2, rfl, k2, h⟩ := h.cons_inv
    obtain rfl := h.nil_inv
    obtain ⟨v0, rfl, hi0⟩ := k0.int_inv am_un3
    obtain ⟨v1, rfl, hl1, hw1⟩ := open_acts k1
    obtain ⟨v2, rfl, hl2⟩ := open_pieces k2
    rw [argAV_one am_ag3, argAV_one am_ag22, argAV_one am_ag28]
    exact serves_law v0 v1 v2 hl1 hw1 hl2
theorem offcutServes_holds : Rows.OffcutServesSaid :=
  OpenClaim.holds_of_wide 7 Try.f7 rfl rfl rfl rfl rfl rfl rfl ⟨rfl, rfl, rfl, rfl, rfl⟩ rfl rfl rfl rfl rfl (by kernel_rfl) Try.func7 (by kernel_rfl)
    (of_decide_eq_true (by kernel_rfl)) (by unfold Func.isWrapper; first | (rw [if_pos (by decide +kernel)]; kernel_rfl) | (rw [if_neg (by decide +kernel)]; exact ⟨rfl, rfl⟩))
    (fun os started H enc _ => offcutServes_lifted os started H enc)

#print axioms offcutServes_holds
end Go.Proofs.Ytaggnajjmopobaa
