/-
  The statement DemandMoved: for every input the law returns true and its arguments read as before.
  Conditions: none.
-/
import Derived.Test.YtnomiafjeiijkaaDoorDm12
import Derived.Test.YtnomiafjeiijkaaDoorOpend
import Derived.Test.YtnomiafjeiijkaaDoorAmFactl
import Derived.Test.YtnomiafjeiijkaaDoorAmLaw
import Derived.Test.YtnomiafjeiijkaaDoorOpen
import Derived.Test.YtnomiafjeiijkaaDoorTie
import Derived.Test.YtnomiafjeiijkaaDoorCards
import Derived.Test.YtnomiafjeiijkaaDoorAmItoa
import Derived.SevenTiedAt
import Derived.LaidMore
import Derived.Lay
namespace Go.Proofs.YtnomiafjeiijkaaDoor
open Go Go.AM
set_option linter.unusedSimpArgs false
set_option linter.unusedVariables false
set_option maxRecDepth 100000
open Go.ChangeShapes Go.WideShapes Go.RowKit

theorem demandMoved_hL (W : World) (h : laidMetH Tryd.prog Rows.demandMovedRow.laid W) : LaidOK W (fun b => b < W.heap.size) :=
  laidOK_one rfl (laid_tab h (name := "internal/strconv.uint64pow10") (k := .u64) (zs := Go.Lib.pow10Tab) (g := 1) (t := 146) (e := 116) (n := 20) (by kernel_rfl) (by kernel_rfl) (by kernel_rfl) (by kernel_rfl) (by kernel_rfl) (by kernel_rfl) (by kernel_rfl))
theorem demandMoved_lifted (os : Os) (started : os.Started) (H : Type) (enc : TypeId × Value → H) :
    ReturnsInHanded {} Tryd.checked os 4 .any (fun w args => (Rows.demandMovedSpec.pre enc Tryd.prog Tryd.f4 [] false w args ∧ laidMetH Tryd.prog Rows.demandMovedRow.laid w) ∧ sizedMet enc Tryd.prog Tryd.f4 (OpenSpec.ofChange Rows.demandMovedSpec) false w args) (Rows.demandMovedSpec.post enc Tryd.prog Tryd.f4 false true false false) := by
  refine law_lifted_laid (C := Tryd.checked) (s := Rows.demandMovedSpec) (ts := [28, 25, 43]) (tb := 4) (laid := Rows.demandMovedRow.laid) am_own started (by kernel_rfl) Tryd.func4
    (ChangeSpec.witness_shaped (enc := enc) (C := Tryd.checked) (os := os) (X := fun w _ => laidMetH Tryd.prog Rows.demandMovedRow.laid w) false (World.doorLaid Tryd.prog 400 os) #[.agg #[.string ByteArray.empty, .int .i64 0, .int .i64 0, .int .i64 0, .int .i64 0, .int .i64 0, .int .i64 0, .slice none 0 0], .agg #[.int .i64 0, .int .i64 0, .int .i64 0, .int .i64 0, .int .i64 0, .int .i64 0], .int .i16 0] 8 rfl (World.shaped_of_RefB (by kernel_rfl) (by kernel_rfl)) (by kernel_rfl) (by kernel_rfl) (by kernel_rfl) (laidMetH_of_parts3 (fuel := 8) (laidMet_of_run' 8 (by kernel_rfl) (by kernel_rfl)) (by kernel_rfl) (by kernel_rfl)))
    am_laid rfl rfl (by kernel_rfl) rfl (by kernel_rfl) (by kernel_rfl) ?_ ?_ demandMoved_hL
  · intro ds h
    match ds, h with
    | [d0, d1, d2], _ => rfl
  · intro avs h0
    have h : WTA Tryd.prog [28, 25, 43] avs := h0
    clear h0
    show Fun Tryd.prog 4 avs _
    obtain ⟨r0, l0, rfl, k0, h⟩ := h.cons_inv
    obtain ⟨r1, l1, rfl, k1, h⟩ := h.cons_inv
    obtain ⟨r2, l2, rfl, k2, h⟩ := h.cons_inv
    obtain rfl := h.nil_inv
    obtain ⟨v0, rfl, hl0⟩ := open_dem k0
    obtain ⟨v1, rfl⟩ := open_box k1
    obtain ⟨v2, rfl, hi2⟩ := k2.int_inv am_un43
    rw [argAV_agg am_ag28, argAV_agg am_ag25, argAV_one am_ag43]
    exact moved_law v0 v1 v2 hl0 hi2
theorem demandMoved_holds : Rows.DemandMovedSaid :=
  OpenClaim.holds_of_wide 4 Tryd.f4 rfl rfl rfl rfl rfl rfl rfl ⟨rfl, rfl, rfl, rfl, rfl⟩ rfl rfl rfl rfl rfl (by kernel_rfl) Tryd.func4 (by kernel_rfl)
    (of_decide_eq_true (by kernel_rfl)) (by unfold Func.isWrapper; first | (rw [if_pos (by decide +kernel)]; kernel_rfl) | (rw [if_neg (by decide +kernel)]; exact ⟨rfl, rfl⟩))
    (fun os started H enc _ => demandMoved_lifted os started H enc)
theorem demandMovedCard_holds : Rows.DemandMovedCardSaid :=
  Claim7.holds_tied_plain_at .later [] [.data, .data, .data] true (true, "44c5b0455ed4dac35118e9537aff48ec5363b5f91d5086fbcfec36d619d2aa21") false
    demandMoved_holds (fun _ h => by cases h) (by kernel_rfl) (fun _ h => by cases h) demandMoved_row_tie rfl ⟨rfl, rfl⟩ (by kernel_rfl) rfl
    (fun f fn hf hfn => by
      obtain rfl : f = 4 := Option.some.inj ((show Tryd.prog.funcNamed "stirrup/stirruplaw23.DemandMoved" = some 4 by kernel_rfl).symm.trans hf) |>.symm
      obtain rfl : fn = Tryd.f4 := (Option.some.inj (Tryd.func4.symm.trans hfn)).symm
      exact ⟨by kernel_rfl, fun j t ht => by
        rw [show Tryd.f4.params = #[28, 25, 43] by kernel_rfl] at ht
        have hm : t ∈ [28, 25, 43] := by simpa using Array.mem_of_getElem? ht
        have hall : ([28, 25, 43].all fun u => !Tryd.prog.wantsStandIn u) = true := by kernel_rfl
        exact (show Tryd.prog.wantsStandIn t = false by simpa using List.all_eq_true.1 hall t hm)⟩)
    (by kernel_rfl)

#print axioms demandMovedCard_holds
end Go.Proofs.YtnomiafjeiijkaaDoor
