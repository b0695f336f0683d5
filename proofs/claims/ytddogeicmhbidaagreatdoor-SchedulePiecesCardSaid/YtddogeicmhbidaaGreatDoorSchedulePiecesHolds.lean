/-
  The statement SchedulePieces: for every input the law returns true and its arguments read as before.
  Conditions: none.
-/
import Derived.Test.YtddogeicmhbidaaGreatDoorLa4
import Derived.Test.YtddogeicmhbidaaGreatDoorAmFactl
import Derived.Test.YtddogeicmhbidaaGreatDoorAmLaw
import Derived.Test.YtddogeicmhbidaaGreatDoorOpen
import Derived.Test.YtddogeicmhbidaaGreatDoorTie
import Derived.Test.YtddogeicmhbidaaGreatDoorCards
import Derived.Test.YtddogeicmhbidaaGreatDoorAmItoa
import Derived.SevenTiedAt
import Derived.LaidMore
namespace Go.Proofs.YtddogeicmhbidaaGreatDoor
open Go Go.AM
set_option linter.unusedSimpArgs false
set_option linter.unusedVariables false
set_option maxRecDepth 100000
open Go.ChangeShapes Go.WideShapes Go.RowKit

theorem schedulePieces_hL (W : World) (h : laidMetH Tryz.prog Rows.schedulePiecesRow.laid W) : LaidOK W (fun b => b < W.heap.size) :=
  laidOK_one rfl (laid_tab h (name := "internal/strconv.uint64pow10") (k := .u64) (zs := Go.Lib.pow10Tab) (g := 1) (t := 169) (e := 122) (n := 20) (by kernel_rfl) (by kernel_rfl) (by kernel_rfl) (by kernel_rfl) (by kernel_rfl) (by kernel_rfl) (by kernel_rfl))
theorem schedulePieces_lifted (os : Os) (started : os.Started) (H : Type) (enc : TypeId × Value → H) :
    ReturnsInHanded {} Tryz.checked os 3 .any (fun w args => (Rows.schedulePiecesSpec.pre enc Tryz.prog Tryz.f3 [] false w args ∧ laidMetH Tryz.prog Rows.schedulePiecesRow.laid w) ∧ sizedMet enc Tryz.prog Tryz.f3 (OpenSpec.ofChange Rows.schedulePiecesSpec) false w args) (Rows.schedulePiecesSpec.post enc Tryz.prog Tryz.f3 false true false false) := by
  refine law_lifted_laid (C := Tryz.checked) (s := Rows.schedulePiecesSpec) (ts := [22, 3]) (tb := 4) (laid := Rows.schedulePiecesRow.laid) am_own started (by kernel_rfl) Tryz.func3
    (ChangeSpec.witness_shaped (enc := enc) (C := Tryz.checked) (os := os) (X := fun w _ => laidMetH Tryz.prog Rows.schedulePiecesRow.laid w) false (World.doorLaid Tryz.prog 400 os) #[.slice none 0 0, .int .i64 0] 8 rfl (World.shaped_of_RefB (by kernel_rfl) (by kernel_rfl)) (by kernel_rfl) (by kernel_rfl) (by kernel_rfl) (laidMetH_of_parts3 (fuel := 8) (laidMet_of_run' 8 (by kernel_rfl) (by kernel_rfl)) (by kernel_rfl) (by kernel_rfl)))
    am_laid rfl rfl (by kernel_rfl) rfl (by kernel_rfl) (by kernel_rfl) ?_ ?_ schedulePieces_hL
  · intro ds h
    match ds, h with
    | [d0, d1], _ => rfl
  · intro avs h0
    have h : WTA Tryz.prog [22, 3] avs := h0
    clear h0
    show Fun Tryz.prog 3 avs _
    obtain ⟨r0, l0, rfl, k0, h⟩ := h.cons_inv
    obtain ⟨r1, l1, rfl, k1, h⟩ := h.cons_inv
    obtain rfl := h.nil_inv
    obtain ⟨v0, rfl, hl0, hw0⟩ := open_bars k0
    obtain ⟨v1, rfl, hi1⟩ := k1.int_inv am_un3
    rw [argAV_one am_ag22, argAV_one am_ag3]
    exact pieces_law v0 v1 hl0
theorem schedulePieces_holds : Rows.SchedulePiecesSaid :=
  OpenClaim.holds_of_wide 3 Tryz.f3 rfl rfl rfl rfl rfl rfl rfl ⟨rfl, rfl, rfl, rfl, rfl⟩ rfl rfl rfl rfl rfl (by kernel_rfl) Tryz.func3 (by kernel_rfl)
    (of_decide_eq_true (by kernel_rfl)) (by unfold Func.isWrapper; first | (rw [if_pos (by decide +kernel)]; kernel_rfl) | (rw [if_neg (by decide +kernel)]; exact ⟨rfl, rfl⟩))
    (fun os started H enc _ => schedulePieces_lifted os started H enc)
theorem schedulePiecesCard_holds : Rows.SchedulePiecesCardSaid :=
  Claim7.holds_tied_plain_at .later [] [.data, .data, .data] true (true, "6e1c8993f9b0800f5d342fd3b9f5f1269c39c4e1bd6443fcda9529e5ad43b53b") true
    schedulePieces_holds (fun _ h => by cases h) (by kernel_rfl) (fun _ h => by cases h) schedulePieces_row_tie rfl ⟨rfl, rfl⟩ (by kernel_rfl) rfl
    (fun f fn hf hfn => by
      obtain rfl : f = 3 := Option.some.inj ((show Tryz.prog.funcNamed "stirrup/stirruplaw14.SchedulePieces" = some 3 by kernel_rfl).symm.trans hf) |>.symm
      obtain rfl : fn = Tryz.f3 := (Option.some.inj (Tryz.func3.symm.trans hfn)).symm
      exact ⟨by kernel_rfl, fun j t ht => by
        rw [show Tryz.f3.params = #[22, 3] by kernel_rfl] at ht
        have hm : t ∈ [22, 3] := by simpa using Array.mem_of_getElem? ht
        have hall : ([22, 3].all fun u => !Tryz.prog.wantsStandIn u) = true := by kernel_rfl
        exact (show Tryz.prog.wantsStandIn t = false by simpa using List.all_eq_true.1 hall t hm)⟩)
    (by kernel_rfl)

#print axioms schedulePiecesCard_holds
end Go.Proofs.YtddogeicmhbidaaGreatDoor
