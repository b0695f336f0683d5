/-
  The statement QuantityLaid: for every input the law returns true and its arguments read as before.
  Conditions: none.
-/
import Derived.Test.YtlpgjlnkfgacbaaGreatDoorX26
import Derived.Test.YtlpgjlnkfgacbaaGreatDoorTie
import Derived.Test.YtlpgjlnkfgacbaaGreatDoorCards
import Derived.SevenTiedAt
import Derived.LaidMore
import Derived.Lay
namespace Go.Proofs.YtlpgjlnkfgacbaaGreatDoor
open Go Go.AM
set_option linter.unusedSimpArgs false
set_option linter.unusedVariables false
set_option maxRecDepth 100000
open Go.ChangeShapes Go.WideShapes Go.RowKit
theorem quantityLaid_hL (W : World) (h : laidMetH Tryz.prog Rows.quantityLaidRow.laid W) : LaidOK W (fun b => b < W.heap.size) :=
  laidOK_one rfl (laid_tab h (name := "internal/strconv.uint64pow10") (k := .u64) (zs := Go.Lib.pow10Tab) (g := 0) (t := 222) (e := 112) (n := 20) (by kernel_rfl) (by kernel_rfl) (by kernel_rfl) (by kernel_rfl) (by kernel_rfl) (by kernel_rfl) (by kernel_rfl))
theorem quantityLaid_lifted (os : Os) (started : os.Started) (H : Type) (enc : TypeId × Value → H) :
    ReturnsInHanded {} Tryz.checked os 4 .any (fun w args => (Rows.quantityLaidSpec.pre enc Tryz.prog Tryz.f4 [] false w args ∧ laidMetH Tryz.prog Rows.quantityLaidRow.laid w) ∧ sizedMet enc Tryz.prog Tryz.f4 (OpenSpec.ofChange Rows.quantityLaidSpec) false w args) (Rows.quantityLaidSpec.post enc Tryz.prog Tryz.f4 false true false false) := by
  refine law_lifted_laid (C := Tryz.checked) (s := Rows.quantityLaidSpec) (ts := [34]) (tb := 4) (laid := Rows.quantityLaidRow.laid) am_own started (by kernel_rfl) Tryz.func4
    (ChangeSpec.witness_shaped (enc := enc) (C := Tryz.checked) (os := os) (X := fun w _ => laidMetH Tryz.prog Rows.quantityLaidRow.laid w) false (World.doorLaid Tryz.prog 400 os) #[.agg #[.string ByteArray.empty, .slice none 0 0, .slice none 0 0, .int .i64 0, .int .i64 0, .int .i64 0, .slice none 0 0, .slice none 0 0, .slice none 0 0, .slice none 0 0, .int .i64 0, .int .i64 0, .int .i64 0, .int .i64 0, .int .i64 0, .int .i64 0, .int .i64 0, .int .i64 0, .int .i64 0]] 8 rfl (World.shaped_of_RefB (by kernel_rfl) (by kernel_rfl)) (by kernel_rfl) (by kernel_rfl) (by kernel_rfl) (laidMetH_of_parts3 (fuel := 8) (laidMet_of_run' 8 (by kernel_rfl) (by kernel_rfl)) (by kernel_rfl) (by kernel_rfl)))
    am_laid rfl rfl (by kernel_rfl) rfl (by kernel_rfl) (by kernel_rfl) ?_ ?_ quantityLaid_hL
  · intro ds h
    match ds, h with
    | [d0], _ => rfl
  · intro avs h0; have h : WTA Tryz.prog [34] avs := h0; clear h0
    show Fun Tryz.prog 4 avs _
    obtain ⟨r0, l0, rfl, k0, h⟩ := h.cons_inv; obtain rfl := h.nil_inv; obtain ⟨v0, rfl, hl0⟩ := open_det k0; rw [argAV_agg Dh]; exact laid_law v0 hl0
theorem quantityLaid_holds : Rows.QuantityLaidSaid :=
  OpenClaim.holds_of_wide 4 Tryz.f4 rfl rfl rfl rfl rfl rfl rfl ⟨rfl, rfl, rfl, rfl, rfl⟩ rfl rfl rfl rfl rfl (by kernel_rfl) Tryz.func4 (by kernel_rfl)
    (of_decide_eq_true (by kernel_rfl)) (by unfold Func.isWrapper; first | (rw [if_pos (by decide +kernel)]; kernel_rfl) | (rw [if_neg (by decide +kernel)]; exact ⟨rfl, rfl⟩))
    (fun os started H enc _ => quantityLaid_lifted os started H enc)
theorem quantityLaidCard_holds : Rows.QuantityLaidCardSaid :=
  Claim7.holds_tied_plain_at .later [] [.data, .data, .data] true (true, "e0ebccd4d0862dbb75f3bb9dd545e6dc682760cd1ec98d00ea6c033a156bab2f") false
    quantityLaid_holds (fun _ h => by cases h) (by kernel_rfl) (fun _ h => by cases h) quantityLaid_row_tie rfl ⟨rfl, rfl⟩ (by kernel_rfl) rfl
    (fun f fn hf hfn => by
      obtain rfl : f = 4 := Option.some.inj ((show Tryz.prog.funcNamed "stirrup/stirruplaw48.QuantityLaid" = some 4 by kernel_rfl).symm.trans hf) |>.symm
      obtain rfl : fn = Tryz.f4 := (Option.some.inj (Tryz.func4.symm.trans hfn)).symm
      exact ⟨by kernel_rfl, fun j t ht => by
        rw [show Tryz.f4.params = #[34] by kernel_rfl] at ht
        have hm : t ∈ [34] := by simpa using Array.mem_of_getElem? ht
        have hall : ([34].all fun u => !Tryz.prog.wantsStandIn u) = true := by kernel_rfl
        exact (show Tryz.prog.wantsStandIn t = false by simpa using List.all_eq_true.1 hall t hm)⟩)
    (by kernel_rfl)
#print axioms quantityLaidCard_holds
end Go.Proofs.YtlpgjlnkfgacbaaGreatDoor
