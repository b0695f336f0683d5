/-
  The statement DemandEnvelopes: for every input the law returns true and its arguments read as before.
  Conditions: none.
-/
import Derived.Test.YtdegjlhcchimbaaDoorEn5
import Derived.Test.YtdegjlhcchimbaaDoorOpend
import Derived.Test.YtdegjlhcchimbaaDoorAmFactl
import Derived.Test.YtdegjlhcchimbaaDoorAmLaw
import Derived.Test.YtdegjlhcchimbaaDoorOpen
import Derived.Test.YtdegjlhcchimbaaDoorTie
import Derived.Test.YtdegjlhcchimbaaDoorCards
import Derived.Test.YtdegjlhcchimbaaDoorAmItoa
import Derived.SevenTiedAt
import Derived.LaidMore
import Derived.Lay
namespace Go.Proofs.YtdegjlhcchimbaaDoor
open Go Go.AM
set_option linter.unusedSimpArgs false
set_option linter.unusedVariables false
set_option maxRecDepth 100000
open Go.ChangeShapes Go.WideShapes Go.RowKit

theorem demandEnvelopes_hL (W : World) (h : laidMetH Tryd.prog Rows.demandEnvelopesRow.laid W) : LaidOK W (fun b => b < W.heap.size) :=
  laidOK_one rfl (laid_tab h (name := "internal/strconv.uint64pow10") (k := .u64) (zs := Go.Lib.pow10Tab) (g := 0) (t := 123) (e := 106) (n := 20) (by kernel_rfl) (by kernel_rfl) (by kernel_rfl) (by kernel_rfl) (by kernel_rfl) (by kernel_rfl) (by kernel_rfl))
theorem demandEnvelopes_lifted (os : Os) (started : os.Started) (H : Type) (enc : TypeId × Value → H) :
    ReturnsInHanded {} Tryd.checked os 3 .any (fun w args => (Rows.demandEnvelopesSpec.pre enc Tryd.prog Tryd.f3 [] false w args ∧ laidMetH Tryd.prog Rows.demandEnvelopesRow.laid w) ∧ sizedMet enc Tryd.prog Tryd.f3 (OpenSpec.ofChange Rows.demandEnvelopesSpec) false w args) (Rows.demandEnvelopesSpec.post enc Tryd.prog Tryd.f3 false true false false) := by
  refine law_lifted_laid (C := Tryd.checked) (s := Rows.demandEnvelopesSpec) (ts := [22, 26]) (tb := 4) (laid := Rows.demandEnvelopesRow.laid) am_own started (by kernel_rfl) Tryd.func3
    (ChangeSpec.witness_shaped (enc := enc) (C := Tryd.checked) (os := os) (X := fun w _ => laidMetH Tryd.prog Rows.demandEnvelopesRow.laid w) false (World.doorLaid Tryd.prog 400 os) #[.slice none 0 0, .agg #[.int .i64 0, .int .i64 0, .int .i64 0, .int .i64 0, .int .i64 0, .int .i64 0]] 8 rfl (World.shaped_of_RefB (by kernel_rfl) (by kernel_rfl)) (by kernel_rfl) (by kernel_rfl) (by kernel_rfl) (laidMetH_of_parts3 (fuel := 8) (laidMet_of_run' 8 (by kernel_rfl) (by kernel_rfl)) (by kernel_rfl) (by kernel_rfl)))
    am_laid rfl rfl (by kernel_rfl) rfl (by kernel_rfl) (by kernel_rfl) ?_ ?_ demandEnvelopes_hL
  · intro ds h
    match ds, h with
    | [d0, d1], _ => rfl
  · intro avs h0
    have h : WTA Tryd.prog [22, 26] avs := h0
    clear h0
    show Fun Tryd.prog 3 avs _
    obtain ⟨r0, l0, rfl, k0, h⟩ := h.cons_inv
    obtain ⟨r1, l1, rfl, k1, h⟩ := h.cons_inv
    obtain rfl := h.nil_inv
    obtain ⟨v0, rfl, hl0, hw0⟩ := open_dems k0
    obtain ⟨v1, rfl⟩ := open_box k1
    rw [argAV_one am_ag22, argAV_agg am_ag26]
    exact envelopes_law v0 v1 hl0 hw0
theorem demandEnvelopes_holds : Rows.DemandEnvelopesSaid :=
  OpenClaim.holds_of_wide 3 Tryd.f3 rfl rfl rfl rfl rfl rfl rfl ⟨rfl, rfl, rfl, rfl, rfl⟩ rfl rfl rfl rfl rfl (by kernel_rfl) Tryd.func3 (by kernel_rfl)
    (of_decide_eq_true (by kernel_rfl)) (by unfold Func.isWrapper; first | (rw [if_pos (by decide +kernel)]; kernel_rfl) | (rw [if_neg (by decide +kernel)]; exact ⟨rfl, rfl⟩))
    (fun os started H enc _ => demandEnvelopes_lifted os started H enc)
theorem demandEnvelopesCard_holds : Rows.DemandEnvelopesCardSaid :=
  Claim7.holds_tied_plain_at .later [] [.data, .data, .data] true (true, "3432f3ca97bb7bacae683eb48b0b6eb919c89edb814666ddf6842b160dcb6647") false
    demandEnvelopes_holds (fun _ h => by cases h) (by kernel_rfl) (fun _ h => by cases h) demandEnvelopes_row_tie rfl ⟨rfl, rfl⟩ (by kernel_rfl) rfl
    (fun f fn hf hfn => by
      obtain rfl : f = 3 := Option.some.inj ((show Tryd.prog.funcNamed "stirrup/stirruplaw23.DemandEnvelopes" = some 3 by kernel_rfl).symm.trans hf) |>.symm
      obtain rfl : fn = Tryd.f3 := (Option.some.inj (Tryd.func3.symm.trans hfn)).symm
      exact ⟨by kernel_rfl, fun j t ht => by
        rw [show Tryd.f3.params = #[22, 26] by kernel_rfl] at ht
        have hm : t ∈ [22, 26] := by simpa using Array.mem_of_getElem? ht
        have hall : ([22, 26].all fun u => !Tryd.prog.wantsStandIn u) = true := by kernel_rfl
        exact (show Tryd.prog.wantsStandIn t = false by simpa using List.all_eq_true.1 hall t hm)⟩)
    (by kernel_rfl)

#print axioms demandEnvelopesCard_holds
end Go.Proofs.YtdegjlhcchimbaaDoor
