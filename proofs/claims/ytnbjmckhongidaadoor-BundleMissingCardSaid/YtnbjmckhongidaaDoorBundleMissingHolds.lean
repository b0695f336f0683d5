/-
  The statement BundleMissing: for every input the law returns true and its arguments read as before.
  Conditions: none.
-/
import Derived.Test.YtnbjmckhongidaaDoorLw5
import Derived.Test.YtnbjmckhongidaaDoorAmFactl
import Derived.Test.YtnbjmckhongidaaDoorAmLaw
import Derived.Test.YtnbjmckhongidaaDoorOpen
import Derived.Test.YtnbjmckhongidaaDoorTie
import Derived.Test.YtnbjmckhongidaaDoorCards
import Derived.Test.YtnbjmckhongidaaDoorAmItoa
import Derived.SevenTiedAt
import Derived.LaidMore
namespace Go.Proofs.YtnbjmckhongidaaDoor
open Go Go.AM
set_option linter.unusedSimpArgs false
set_option linter.unusedVariables false
set_option maxRecDepth 100000
open Go.ChangeShapes Go.WideShapes Go.RowKit

theorem bundleMissing_hL (W : World) (h : laidMetH Tryd.prog Rows.bundleMissingRow.laid W) : LaidOK W (fun b => b < W.heap.size) :=
  laidOK_one rfl (laid_tab h (name := "internal/strconv.uint64pow10") (k := .u64) (zs := Go.Lib.pow10Tab) (g := 1) (t := 146) (e := 132) (n := 20) (by kernel_rfl) (by kernel_rfl) (by kernel_rfl) (by kernel_rfl) (by kernel_rfl) (by kernel_rfl) (by kernel_rfl))
theorem bundleMissing_lifted (os : Os) (started : os.Started) (H : Type) (enc : TypeId × Value → H) :
    ReturnsInHanded {} Tryd.checked os 7 .any (fun w args => (Rows.bundleMissingSpec.pre enc Tryd.prog Tryd.f7 [] false w args ∧ laidMetH Tryd.prog Rows.bundleMissingRow.laid w) ∧ sizedMet enc Tryd.prog Tryd.f7 (OpenSpec.ofChange Rows.bundleMissingSpec) false w args) (Rows.bundleMissingSpec.post enc Tryd.prog Tryd.f7 false true false false) := by
  refine law_lifted_laid (C := Tryd.checked) (s := Rows.bundleMissingSpec) (ts := [22, 3, 5]) (tb := 4) (laid := Rows.bundleMissingRow.laid) am_own started (by kernel_rfl) Tryd.func7
    (ChangeSpec.witness_shaped (enc := enc) (C := Tryd.checked) (os := os) (X := fun w _ => laidMetH Tryd.prog Rows.bundleMissingRow.laid w) false (World.doorLaid Tryd.prog 400 os) #[.slice none 0 0, .int .i64 0, .int .u8 0] 8 rfl (World.shaped_of_RefB (by kernel_rfl) (by kernel_rfl)) (by kernel_rfl) (by kernel_rfl) (by kernel_rfl) (laidMetH_of_parts3 (fuel := 8) (laidMet_of_run' 8 (by kernel_rfl) (by kernel_rfl)) (by kernel_rfl) (by kernel_rfl)))
    am_laid rfl rfl (by kernel_rfl) rfl (by kernel_rfl) (by kernel_rfl) ?_ ?_ bundleMissing_hL
  · intro ds h
    match ds, h with
    | [d0, d1, d2], _ => rfl
  · intro avs h0
    have h : WTA Tryd.prog [22, 3, 5] avs := h0
    clear h0
    show Fun Tryd.prog 7 avs _
    obtain ⟨r0, l0, rfl, k0, h⟩ := h.cons_inv
    obtain ⟨r1, l1, rfl, k1, h⟩ := h.cons_inv
    obtain ⟨r2, l2, rfl, k2, h⟩ := h.cons_inv
    obtain rfl := h.nil_inv
    obtain ⟨v0, rfl, hl0, hw0⟩ := open_bars k0
    obtain ⟨v1, rfl, hi1⟩ := k1.int_inv am_un3
    obtain ⟨v2, rfl, hi2⟩ := k2.int_inv am_un5
    rw [argAV_one am_ag22, argAV_one am_ag3, argAV_one am_ag5]
    exact missing_law v0 v1 v2 hl0 hi2
theorem bundleMissing_holds : Rows.BundleMissingSaid :=
  OpenClaim.holds_of_wide 7 Tryd.f7 rfl rfl rfl rfl rfl rfl rfl ⟨rfl, rfl, rfl, rfl, rfl⟩ rfl rfl rfl rfl rfl (by kernel_rfl) Tryd.func7 (by kernel_rfl)
    (of_decide_eq_true (by kernel_rfl)) (by unfold Func.isWrapper; first | (rw [if_pos (by decide +kernel)]; kernel_rfl) | (rw [if_neg (by decide +kernel)]; exact ⟨rfl, rfl⟩))
    (fun os started H enc _ => bundleMissing_lifted os started H enc)
theorem bundleMissingCard_holds : Rows.BundleMissingCardSaid :=
  Claim7.holds_tied_plain_at .later [] [.data, .data, .data] true (true, "1c88245412a0bfa6eac2fe3ae9b5d875a420fc6f4385e9387f33b1d4d9df87a1") true
    bundleMissing_holds (fun _ h => by cases h) (by kernel_rfl) (fun _ h => by cases h) bundleMissing_row_tie rfl ⟨rfl, rfl⟩ (by kernel_rfl) rfl
    (fun f fn hf hfn => by
      obtain rfl : f = 7 := Option.some.inj ((show Tryd.prog.funcNamed "stirrup/stirruplaw36.BundleMissing" = some 7 by kernel_rfl).symm.trans hf) |>.symm
      obtain rfl : fn = Tryd.f7 := (Option.some.inj (Tryd.func7.symm.trans hfn)).symm
      exact ⟨by kernel_rfl, fun j t ht => by
        rw [show Tryd.f7.params = #[22, 3, 5] by kernel_rfl] at ht
        have hm : t ∈ [22, 3, 5] := by simpa using Array.mem_of_getElem? ht
        have hall : ([22, 3, 5].all fun u => !Tryd.prog.wantsStandIn u) = true := by kernel_rfl
        exact (show Tryd.prog.wantsStandIn t = false by simpa using List.all_eq_true.1 hall t hm)⟩)
    (by kernel_rfl)

#print axioms bundleMissingCard_holds
end Go.Proofs.YtnbjmckhongidaaDoor
