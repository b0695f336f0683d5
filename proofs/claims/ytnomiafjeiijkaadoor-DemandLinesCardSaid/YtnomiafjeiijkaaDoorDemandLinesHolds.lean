/-
  The statement DemandLines: for every input the law returns true and its arguments read as before.
  Conditions: none.
-/
import Derived.Test.YtnomiafjeiijkaaDoorDm11
import Derived.Test.YtnomiafjeiijkaaDoorOpend
import Derived.Test.YtnomiafjeiijkaaDoorAmFactl
import Derived.Test.YtnomiafjeiijkaaDoorAmLaw
import Derived.Test.YtnomiafjeiijkaaDoorOpen
import Derived.Test.YtnomiafjeiijkaaDoorTie
import Derived.Test.YtnomiafjeiijkaaDoorCards
import Derived.Test.YtnomiafjeiijkaaDoorAmItoa
import Derived.SevenTiedAt
import Derived.LaidMore
import Derived.Lay
namespace Go.Proofs.YtnomiafjeiijkaaDoor
open Go Go.AM
set_option linter.unusedSimpArgs false
set_option linter.unusedVariables false
set_option maxRecDepth 100000
open Go.ChangeShapes Go.WideShapes Go.RowKit

theorem demandLines_hL (W : World) (h : laidMetH Tryd.prog Rows.demandLinesRow.laid W) : LaidOK W (fun b => b < W.heap.size) :=
  laidOK_one rfl (laid_tab h (name := "internal/strconv.uint64pow10") (k := .u64) (zs := Go.Lib.pow10Tab) (g := 1) (t := 146) (e := 116) (n := 20) (by kernel_rfl) (by kernel_rfl) (by kernel_rfl) (by kernel_rfl) (by kernel_rfl) (by kernel_rfl) (by kernel_rfl))
theorem demandLines_lifted (os : Os) (started : os.Started) (H : Type) (enc : TypeId × Value → H) :
    ReturnsInHanded {} Tryd.checked os 7 .any (fun w args => (Rows.demandLinesSpec.pre enc Tryd.prog Tryd.f7 [] false w args ∧ laidMetH Tryd.prog Rows.demandLinesRow.laid w) ∧ sizedMet enc Tryd.prog Tryd.f7 (OpenSpec.ofChange Rows.demandLinesSpec) false w args) (Rows.demandLinesSpec.post enc Tryd.prog Tryd.f7 false true false false) := by
  refine law_lifted_laid (C := Tryd.checked) (s := Rows.demandLinesSpec) (ts := [41, 5]) (tb := 4) (laid := Rows.demandLinesRow.laid) am_own started (by kernel_rfl) Tryd.func7
    (ChangeSpec.witness_shaped (enc := enc) (C := Tryd.checked) (os := os) (X := fun w _ => laidMetH Tryd.prog Rows.demandLinesRow.laid w) false (World.laidAll Tryd.prog os Rows.demandLinesRow.laid) #[.slice none 0 0, .int .u8 0] 8 (World.laidAll_os _ _ _) (World.shaped_of_ZipB (by kernel_rfl) (by kernel_rfl)) (by kernel_rfl) (by kernel_rfl) (by kernel_rfl) (by rw [MakeChecks.laidMetH_plain _ _ _ (by kernel_rfl)]; exact laidMet_laidAll _ (by kernel_rfl) (by kernel_rfl)))
    am_laid rfl rfl (by kernel_rfl) rfl (by kernel_rfl) (by kernel_rfl) ?_ ?_ demandLines_hL
  · intro ds h
    match ds, h with
    | [d0, d1], _ => rfl
  · intro avs h0
    have h : WTA Tryd.prog [41, 5] avs := h0
    clear h0
    show Fun Tryd.prog 7 avs _
    obtain ⟨r0, l0, rfl, k0, h⟩ := h.cons_inv
    obtain ⟨r1, l1, rfl, k1, h⟩ := h.cons_inv
    obtain rfl := h.nil_inv
    obtain ⟨v0, rfl, hl0, hw0⟩ := open_dems k0
    obtain ⟨v1, rfl, hi1⟩ := k1.int_inv am_un5
    rw [argAV_one am_ag41, argAV_one am_ag5]
    exact lines_law v0 v1 hl0 hw0 hi1
theorem demandLines_holds : Rows.DemandLinesSaid :=
  OpenClaim.holds_of_wide 7 Tryd.f7 rfl rfl rfl rfl rfl rfl rfl ⟨rfl, rfl, rfl, rfl, rfl⟩ rfl rfl rfl rfl rfl (by kernel_rfl) Tryd.func7 (by kernel_rfl)
    (of_decide_eq_true (by kernel_rfl)) (by unfold Func.isWrapper; first | (rw [if_pos (by decide +kernel)]; kernel_rfl) | (rw [if_neg (by decide +kernel)]; exact ⟨rfl, rfl⟩))
    (fun os started H enc _ => demandLines_lifted os started H enc)
theorem demandLinesCard_holds : Rows.DemandLinesCardSaid :=
  Claim7.holds_tied_plain_at .later [] [.data, .data, .data, .data, .pinned] true (true, "44c5b0455ed4dac35118e9537aff48ec5363b5f91d5086fbcfec36d619d2aa21") false
    demandLines_holds (fun _ h => by cases h) (by kernel_rfl) (fun _ h => by cases h) demandLines_row_tie rfl ⟨rfl, rfl⟩ (by kernel_rfl) rfl
    (fun f fn hf hfn => by
      obtain rfl : f = 7 := Option.some.inj ((show Tryd.prog.funcNamed "stirrup/stirruplaw23.DemandLines" = some 7 by kernel_rfl).symm.trans hf) |>.symm
      obtain rfl : fn = Tryd.f7 := (Option.some.inj (Tryd.func7.symm.trans hfn)).symm
      exact ⟨by kernel_rfl, fun j t ht => by
        rw [show Tryd.f7.params = #[41, 5] by kernel_rfl] at ht
        have hm : t ∈ [41, 5] := by simpa using Array.mem_of_getElem? ht
        have hall : ([41, 5].all fun u => !Tryd.prog.wantsStandIn u) = true := by kernel_rfl
        exact (show Tryd.prog.wantsStandIn t = false by simpa using List.all_eq_true.1 hall t hm)⟩)
    (by kernel_rfl)

#print axioms demandLinesCard_holds
end Go.Proofs.YtnomiafjeiijkaaDoor
