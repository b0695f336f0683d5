/-
  The statement DemandCovers: for every input the law returns true and its arguments read as before.
  Conditions: none.
-/
import Derived.Test.YthiockdlhehhoaaDoorCv1
import Derived.Test.YthiockdlhehhoaaDoorOpend
import Derived.Test.YthiockdlhehhoaaDoorAmFactl
import Derived.Test.YthiockdlhehhoaaDoorAmLaw
import Derived.Test.YthiockdlhehhoaaDoorOpen
import Derived.Test.YthiockdlhehhoaaDoorTie
import Derived.Test.YthiockdlhehhoaaDoorCards
import Derived.Test.YthiockdlhehhoaaDoorAmItoa
import Derived.SevenTiedAt
import Derived.LaidMore
import Derived.Lay
namespace Go.Proofs.YthiockdlhehhoaaDoor
open Go Go.AM
set_option linter.unusedSimpArgs false
set_option linter.unusedVariables false
set_option maxRecDepth 100000
open Go.ChangeShapes Go.WideShapes Go.RowKit

theorem demandCovers_hL (W : World) (h : laidMetH Tryd.prog Rows.demandCoversRow.laid W) : LaidOK W (fun b => b < W.heap.size) :=
  laidOK_one rfl (laid_tab h (name := "internal/strconv.uint64pow10") (k := .u64) (zs := Go.Lib.pow10Tab) (g := 0) (t := 117) (e := 99) (n := 20) (by kernel_rfl) (by kernel_rfl) (by kernel_rfl) (by kernel_rfl) (by kernel_rfl) (by kernel_rfl) (by kernel_rfl))
theorem demandCovers_lifted (os : Os) (started : os.Started) (H : Type) (enc : TypeId × Value → H) :
    ReturnsInHanded {} Tryd.checked os 3 .any (fun w args => (Rows.demandCoversSpec.pre enc Tryd.prog Tryd.f3 [] false w args ∧ laidMetH Tryd.prog Rows.demandCoversRow.laid w) ∧ sizedMet enc Tryd.prog Tryd.f3 (OpenSpec.ofChange Rows.demandCoversSpec) false w args) (Rows.demandCoversSpec.post enc Tryd.prog Tryd.f3 false true false false) := by
  refine law_lifted_laid (C := Tryd.checked) (s := Rows.demandCoversSpec) (ts := [22, 26, 5, 21]) (tb := 4) (laid := Rows.demandCoversRow.laid) am_own started (by kernel_rfl) Tryd.func3
    (ChangeSpec.witness_shaped (enc := enc) (C := Tryd.checked) (os := os) (X := fun w _ => laidMetH Tryd.prog Rows.demandCoversRow.laid w) false (World.doorLaid Tryd.prog 400 os) #[.slice none 0 0, .agg #[.int .i64 0, .int .i64 0, .int .i64 0, .int .i64 0, .int .i64 0, .int .i64 0], .int .u8 0, .int .i32 0] 8 rfl (World.shaped_of_RefB (by kernel_rfl) (by kernel_rfl)) (by kernel_rfl) (by kernel_rfl) (by kernel_rfl) (laidMetH_of_parts3 (fuel := 8) (laidMet_of_run' 8 (by kernel_rfl) (by kernel_rfl)) (by kernel_rfl) (by kernel_rfl)))
    am_laid rfl rfl (by kernel_rfl) rfl (by kernel_rfl) (by kernel_rfl) ?_ ?_ demandCovers_hL
  · intro ds h
    match ds, h with
    | [d0, d1, d2, d3], _ => rfl
  · intro avs h0
    have h : WTA Tryd.prog [22, 26, 5, 21] avs := h0
    clear h0
    show Fun Tryd.prog 3 avs _
    obtain ⟨r0, l0, rfl, k0, h⟩ := h.cons_inv
    obtain ⟨r1, l1, rfl, k1, h⟩ := h.cons_inv
    obtain ⟨r2, l2, rfl, k2, h⟩ := h.cons_inv
    obtain ⟨r3, l3, rfl, k3, h⟩ := h.cons_inv
    obtain rfl := h.nil_inv
    obtain ⟨v0, rfl, hl0, hw0⟩ := open_dems k0
    obtain ⟨v1, rfl⟩ := open_box k1
    obtain ⟨v2, rfl, hi2⟩ := k2.int_inv am_un5
    obtain ⟨v3, rfl, hi3⟩ := k3.int_inv am_un21
    rw [argAV_one am_ag22, argAV_agg am_ag26, argAV_one am_ag5, argAV_one am_ag21]
    exact covers_law v0 v1 v2 v3 hl0 hw0 hi2 hi3
theorem demandCovers_holds : Rows.DemandCoversSaid :=
  OpenClaim.holds_of_wide 3 Tryd.f3 rfl rfl rfl rfl rfl rfl rfl ⟨rfl, rfl, rfl, rfl, rfl⟩ rfl rfl rfl rfl rfl (by kernel_rfl) Tryd.func3 (by kernel_rfl)
    (of_decide_eq_true (by kernel_rfl)) (by unfold Func.isWrapper; first | (rw [if_pos (by decide +kernel)]; kernel_rfl) | (rw [if_neg (by decide +kernel)]; exact ⟨rfl, rfl⟩))
    (fun os started H enc _ => demandCovers_lifted os started H enc)
theorem demandCoversCard_holds : Rows.DemandCoversCardSaid :=
  Claim7.holds_tied_plain_at .later [] [.data, .data, .data] true (true, "cd9734b54c0789ba845175fd4ff7167eb3b42a906401812b385b2d413fee159a") false
    demandCovers_holds (fun _ h => by cases h) (by kernel_rfl) (fun _ h => by cases h) demandCovers_row_tie rfl ⟨rfl, rfl⟩ (by kernel_rfl) rfl
    (fun f fn hf hfn => by
      obtain rfl : f = 3 := Option.some.inj ((show Tryd.prog.funcNamed "stirrup/stirruplaw23.DemandCovers" = some 3 by kernel_rfl).symm.trans hf) |>.symm
      obtain rfl : fn = Tryd.f3 := (Option.some.inj (Tryd.func3.symm.trans hfn)).symm
      exact ⟨by kernel_rfl, fun j t ht => by
        rw [show Tryd.f3.params = #[22, 26, 5, 21] by kernel_rfl] at ht
        have hm : t ∈ [22, 26, 5, 21] := by simpa using Array.mem_of_getElem? ht
        have hall : ([22, 26, 5, 21].all fun u => !Tryd.prog.wantsStandIn u) = true := by kernel_rfl
        exact (show Tryd.prog.wantsStandIn t = false by simpa using List.all_eq_true.1 hall t hm)⟩)
    (by kernel_rfl)

#print axioms demandCoversCard_holds
end Go.Proofs.YthiockdlhehhoaaDoor
