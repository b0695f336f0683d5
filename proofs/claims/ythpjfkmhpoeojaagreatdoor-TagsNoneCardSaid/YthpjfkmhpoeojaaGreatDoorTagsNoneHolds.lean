/-
  The statement TagsNone: for every input the law returns true and its arguments read as before.
  Conditions: none.
-/
import Derived.Test.YthpjfkmhpoeojaaGreatDoorTgr
import Derived.Test.YthpjfkmhpoeojaaGreatDoorOpenc
import Derived.Test.YthpjfkmhpoeojaaGreatDoorAmFactl
import Derived.Test.YthpjfkmhpoeojaaGreatDoorAmLaw
import Derived.Test.YthpjfkmhpoeojaaGreatDoorOpen
import Derived.Test.YthpjfkmhpoeojaaGreatDoorTie
import Derived.Test.YthpjfkmhpoeojaaGreatDoorCards
import Derived.Test.YthpjfkmhpoeojaaGreatDoorAmItoa
import Derived.SevenTiedAt
import Derived.LaidMore
import Derived.Lay
namespace Go.Proofs.YthpjfkmhpoeojaaGreatDoor
open Go Go.AM
set_option linter.unusedSimpArgs false
set_option linter.unusedVariables false
set_option maxRecDepth 100000
open Go.ChangeShapes Go.WideShapes Go.RowKit
theorem tagsNone_hL (W : World) (h : laidMetH Tryz.prog Rows.tagsNoneRow.laid W) : LaidOK W (fun b => b < W.heap.size) :=
  laidOK_one rfl (laid_tab h (name := "internal/strconv.uint64pow10") (k := .u64) (zs := Go.Lib.pow10Tab) (g := 0) (t := 142) (e := 130) (n := 20) (by kernel_rfl) (by kernel_rfl) (by kernel_rfl) (by kernel_rfl) (by kernel_rfl) (by kernel_rfl) (by kernel_rfl))
theorem tagsNone_lifted (os : Os) (started : os.Started) (H : Type) (enc : TypeId × Value → H) :
    ReturnsInHanded {} Tryz.checked os 4 .any (fun w args => (Rows.tagsNoneSpec.pre enc Tryz.prog Tryz.f4 [] false w args ∧ laidMetH Tryz.prog Rows.tagsNoneRow.laid w) ∧ sizedMet enc Tryz.prog Tryz.f4 (OpenSpec.ofChange Rows.tagsNoneSpec) false w args) (Rows.tagsNoneSpec.post enc Tryz.prog Tryz.f4 false true false false) := by
  refine law_lifted_laid (C := Tryz.checked) (s := Rows.tagsNoneSpec) (ts := [34]) (tb := 4) (laid := Rows.tagsNoneRow.laid) am_own started (by kernel_rfl) Tryz.func4
    (ChangeSpec.witness_shaped (enc := enc) (C := Tryz.checked) (os := os) (X := fun w _ => laidMetH Tryz.prog Rows.tagsNoneRow.laid w) false (World.doorLaid Tryz.prog 400 os) #[.agg #[.int .i64 0, .int .i64 0, .string ByteArray.empty, .slice none 0 0, .slice none 0 0, .slice none 0 0]] 8 rfl (World.shaped_of_RefB (by kernel_rfl) (by kernel_rfl)) (by kernel_rfl) (by kernel_rfl) (by kernel_rfl) (laidMetH_of_parts3 (fuel := 8) (laidMet_of_run' 8 (by kernel_rfl) (by kernel_rfl)) (by kernel_rfl) (by kernel_rfl)))
    am_laid rfl rfl (by kernel_rfl) rfl (by kernel_rfl) (by kernel_rfl) ?_ ?_ tagsNone_hL
  · intro ds h
    match ds, h with
    | [d0], _ => rfl
  · intro avs h0; have h : WTA Tryz.prog [34] avs := h0; clear h0
    show Fun Tryz.prog 4 avs _
    obtain ⟨r0, l0, rfl, k0, h⟩ := h.cons_inv; obtain rfl := h.nil_inv; obtain ⟨v0, rfl, hl0⟩ := open_act1 k0; rw [argAV_agg am_ag34]; exact none_law v0 hl0
theorem tagsNone_holds : Rows.TagsNoneSaid :=
  OpenClaim.holds_of_wide 4 Tryz.f4 rfl rfl rfl rfl rfl rfl rfl ⟨rfl, rfl, rfl, rfl, rfl⟩ rfl rfl rfl rfl rfl (by kernel_rfl) Tryz.func4 (by kernel_rfl)
    (of_decide_eq_true (by kernel_rfl)) (by unfold Func.isWrapper; first | (rw [if_pos (by decide +kernel)]; kernel_rfl) | (rw [if_neg (by decide +kernel)]; exact ⟨rfl, rfl⟩))
    (fun os started H enc _ => tagsNone_lifted os started H enc)
theorem tagsNoneCard_holds : Rows.TagsNoneCardSaid :=
  Claim7.holds_tied_plain_at .later [] [.data, .data, .data] true (true, "d3ff232638dedd68be9a3914dcea3333e17ec44017c4a7610a82661c059e2b2b") false
    tagsNone_holds (fun _ h => by cases h) (by kernel_rfl) (fun _ h => by cases h) tagsNone_row_tie rfl ⟨rfl, rfl⟩ (by kernel_rfl) rfl
    (fun f fn hf hfn => by
      obtain rfl : f = 4 := Option.some.inj ((show Tryz.prog.funcNamed "stirrup/stirruplaw42.TagsNone" = some 4 by kernel_rfl).symm.trans hf) |>.symm
      obtain rfl : fn = Tryz.f4 := (Option.some.inj (Tryz.func4.symm.trans hfn)).symm
      exact ⟨by kernel_rfl, fun j t ht => by
        rw [show Tryz.f4.params = #[34] by kernel_rfl] at ht
        have hm : t ∈ [34] := by simpa using Array.mem_of_getElem? ht
        have hall : ([34].all fun u => !Tryz.prog.wantsStandIn u) = true := by kernel_rfl
        exact (show Tryz.prog.wantsStandIn t = false by simpa using List.all_eq_true.1 hall t hm)⟩)
    (by kernel_rfl)
#print axioms tagsNoneCard_holds
end Go.Proofs.YthpjfkmhpoeojaaGreatDoor
