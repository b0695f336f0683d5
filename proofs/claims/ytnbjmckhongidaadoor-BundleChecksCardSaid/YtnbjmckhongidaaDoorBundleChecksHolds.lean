/-
  The statement BundleChecks: for every input the law returns true and its arguments read as before.
  Conditions: none.
-/
import Derived.Test.YtnbjmckhongidaaDoorLw3
import Derived.Test.YtnbjmckhongidaaDoorOpenb
import Derived.Test.YtnbjmckhongidaaDoorAmFactl
import Derived.Test.YtnbjmckhongidaaDoorAmLaw
import Derived.Test.YtnbjmckhongidaaDoorOpen
import Derived.Test.YtnbjmckhongidaaDoorTie
import Derived.Test.YtnbjmckhongidaaDoorCards
import Derived.Test.YtnbjmckhongidaaDoorAmItoa
import Derived.SevenTiedAt
import Derived.LaidMore
namespace Go.Proofs.YtnbjmckhongidaaDoor
open Go Go.AM
set_option linter.unusedSimpArgs false
set_option linter.unusedVariables false
set_option maxRecDepth 100000
open Go.ChangeShapes Go.WideShapes Go.RowKit

theorem bundleChecks_hL (W : World) (h : laidMetH Tryd.prog Rows.bundleChecksRow.laid W) : LaidOK W (fun b => b < W.heap.size) :=
  laidOK_one rfl (laid_tab h (name := "internal/strconv.uint64pow10") (k := .u64) (zs := Go.Lib.pow10Tab) (g := 1) (t := 146) (e := 132) (n := 20) (by kernel_rfl) (by kernel_rfl) (by kernel_rfl) (by kernel_rfl) (by kernel_rfl) (by kernel_rfl) (by kernel_rfl))
theorem bundleChecks_lifted (os : Os) (started : os.Started) (H : Type) (enc : TypeId × Value → H) :
    ReturnsInHanded {} Tryd.checked os 6 .any (fun w args => (Rows.bundleChecksSpec.pre enc Tryd.prog Tryd.f6 [] false w args ∧ laidMetH Tryd.prog Rows.bundleChecksRow.laid w) ∧ sizedMet enc Tryd.prog Tryd.f6 (OpenSpec.ofChange Rows.bundleChecksSpec) false w args) (Rows.bundleChecksSpec.post enc Tryd.prog Tryd.f6 false true false false) := by
  refine law_lifted_laid (C := Tryd.checked) (s := Rows.bundleChecksSpec) (ts := [22, 25, 9]) (tb := 4) (laid := Rows.bundleChecksRow.laid) am_own started (by kernel_rfl) Tryd.func6
    (ChangeSpec.witness_shaped (enc := enc) (C := Tryd.checked) (os := os) (X := fun w _ => laidMetH Tryd.prog Rows.bundleChecksRow.laid w) false (World.doorLaid Tryd.prog 400 os) #[.slice none 0 0, .slice none 0 0, .string ByteArray.empty] 8 rfl (World.shaped_of_RefB (by kernel_rfl) (by kernel_rfl)) (by kernel_rfl) (by kernel_rfl) (by kernel_rfl) (laidMetH_of_parts3 (fuel := 8) (laidMet_of_run' 8 (by kernel_rfl) (by kernel_rfl)) (by kernel_rfl) (by kernel_rfl)))
    am_laid rfl rfl (by kernel_rfl) rfl (by kernel_rfl) (by kernel_rfl) ?_ ?_ bundleChecks_hL
  · intro ds h
    match ds, h with
    | [d0, d1, d2], _ => rfl
  · intro avs h0
    have h : WTA Tryd.prog [22, 25, 9] avs := h0
    clear h0
    show Fun Tryd.prog 6 avs _
    obtain ⟨r0, l0, rfl, k0, h⟩ := h.cons_inv
    obtain ⟨r1, l1, rfl, k1, h⟩ := h.cons_inv
    obtain ⟨r2, l2, rfl, k2, h⟩ := h.cons_inv
    obtain rfl := h.nil_inv
    obtain ⟨v0, rfl, hl0, hw0⟩ := open_bars k0
    obtain ⟨v1, rfl, hl1⟩ := open_buns k1
    obtain ⟨v2, rfl, hl2⟩ := open_string k2
    rw [argAV_one am_ag22, argAV_one am_ag25, argAV_one am_ag9]
    exact checks_law v0 v1 v2 hl0 hl1 hl2
theorem bundleChecks_holds : Rows.BundleChecksSaid :=
  OpenClaim.holds_of_wide 6 Tryd.f6 rfl rfl rfl rfl rfl rfl rfl ⟨rfl, rfl, rfl, rfl, rfl⟩ rfl rfl rfl rfl rfl (by kernel_rfl) Tryd.func6 (by kernel_rfl)
    (of_decide_eq_true (by kernel_rfl)) (by unfold Func.isWrapper; first | (rw [if_pos (by decide +kernel)]; kernel_rfl) | (rw [if_neg (by decide +kernel)]; exact ⟨rfl, rfl⟩))
    (fun os started H enc _ => bundleChecks_lifted os started H enc)
theorem bundleChecksCard_holds : Rows.BundleChecksCardSaid :=
  Claim7.holds_tied_plain_at .later [] [.data, .data, .data] true (true, "1c88245412a0bfa6eac2fe3ae9b5d875a420fc6f4385e9387f33b1d4d9df87a1") true
    bundleChecks_holds (fun _ h => by cases h) (by kernel_rfl) (fun _ h => by cases h) bundleChecks_row_tie rfl ⟨rfl, rfl⟩ (by kernel_rfl) rfl
    (fun f fn hf hfn => by
      obtain rfl : f = 6 := Option.some.inj ((show Tryd.prog.funcNamed "stirrup/stirruplaw36.BundleChecks" = some 6 by kernel_rfl).symm.trans hf) |>.symm
      obtain rfl : fn = Tryd.f6 := (Option.some.inj (Tryd.func6.symm.trans hfn)).symm
      exact ⟨by kernel_rfl, fun j t ht => by
        rw [show Tryd.f6.params = #[22, 25, 9] by kernel_rfl] at ht
        have hm : t ∈ [22, 25, 9] := by simpa using Array.mem_of_getElem? ht
        have hall : ([22, 25, 9].all fun u => !Tryd.prog.wantsStandIn u) = true := by kernel_rfl
        exact (show Tryd.prog.wantsStandIn t = false by simpa using List.all_eq_true.1 hall t hm)⟩)
    (by kernel_rfl)

#print axioms bundleChecksCard_holds
end Go.Proofs.YtnbjmckhongidaaDoor
