/-
  The statement QuantityRuns: for every input the law returns true and its arguments read as before.
  Conditions: none.
-/
import Derived.Test.YtlpgjlnkfgacbaaGreatX30
namespace Go.Proofs.YtlpgjlnkfgacbaaGreat
open Go Go.AM
set_option linter.unusedSimpArgs false
set_option linter.unusedVariables false
set_option maxRecDepth 100000
open Go.ChangeShapes Go.WideShapes Go.RowKit
theorem quantityRuns_lifted (os : Os) (started : os.Started) (H : Type) (enc : TypeId × Value → H) :
    ReturnsInHanded {} Tryz.checked os 3 .any (Rows.quantityRunsSpec.pre6 enc Tryz.prog Tryz.f3 Rows.quantityRunsRow.domain false) (Rows.quantityRunsSpec.post enc Tryz.prog Tryz.f3 false true false false) := by
  refine law_lifted (C := Tryz.checked) (s := Rows.quantityRunsSpec) (ts := [34, 40]) (tb := 4) am_own started (by kernel_rfl) Tryz.func3
    (ChangeSpec.witness6 (enc := enc) (C := Tryz.checked) false ⟨#[], #[.agg #[.string ByteArray.empty, .slice none 0 0, .slice none 0 0, .int .i64 0, .int .i64 0, .int .i64 0, .slice none 0 0, .slice none 0 0, .slice none 0 0, .slice none 0 0, .int .i64 0, .int .i64 0, .int .i64 0, .int .i64 0, .int .i64 0, .int .i64 0, .int .i64 0, .int .i64 0, .int .i64 0], .agg #[.string ByteArray.empty, .int .i64 0, .int .i64 0, .int .i64 0, .int .i64 0, .int .i64 0, .int .i64 0, .int .i64 0, .int .i64 0, .int .i64 0]], []⟩ 8 (by kernel_rfl) (by kernel_rfl) (by kernel_rfl) (by kernel_rfl)) am_laid rfl rfl (by kernel_rfl) rfl (by kernel_rfl) (by kernel_rfl) ?_ ?_
  · intro ds h
    match ds, h with
    | [d0, d1], _ => rfl
  intro avs h0; have h : WTA Tryz.prog [34, 40] avs := h0; clear h0
  show Fun Tryz.prog 3 avs _
  obtain ⟨r0, l0, rfl, k0, h⟩ := h.cons_inv; obtain ⟨r1, l1, rfl, k1, h⟩ := h.cons_inv; obtain rfl := h.nil_inv; obtain ⟨v0, rfl, hl0⟩ := open_det k0; obtain ⟨v1, rfl, hl1⟩ := open_run k1; rw [argAV_agg am_ag34, argAV_agg am_ag40]; exact runs_law v0 v1 hl0 hl1
theorem quantityRuns_holds : Rows.QuantityRunsSaid :=
  OpenClaim.holds_of_wide 3 Tryz.f3 rfl rfl rfl rfl rfl rfl rfl ⟨rfl, rfl, rfl, rfl, rfl⟩ rfl rfl rfl rfl rfl (by kernel_rfl) Tryz.func3 (by kernel_rfl)
    (of_decide_eq_true (by kernel_rfl)) (by unfold Func.isWrapper; (rw [if_neg (by decide +kernel)]; exact ⟨rfl, rfl⟩))
    (fun os started H enc _ => quantityRuns_lifted os started H enc)
#print axioms quantityRuns_holds
end Go.Proofs.YtlpgjlnkfgacbaaGreat
