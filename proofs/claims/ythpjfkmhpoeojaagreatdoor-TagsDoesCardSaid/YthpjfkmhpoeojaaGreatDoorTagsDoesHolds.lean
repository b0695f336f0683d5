/-
  The statement TagsDoes: for every input the law returns true and its arguments read as before.
  Conditions: none.
-/
import Derived.Test.YthpjfkmhpoeojaaGreatDoorTgr
import Derived.Test.YthpjfkmhpoeojaaGreatDoorOpena
import Derived.Test.YthpjfkmhpoeojaaGreatDoorAmFactl
import Derived.Test.YthpjfkmhpoeojaaGreatDoorAmLaw
import Derived.Test.YthpjfkmhpoeojaaGreatDoorOpen
import Derived.Test.YthpjfkmhpoeojaaGreatDoorTie
import Derived.Test.YthpjfkmhpoeojaaGreatDoorCards
import Derived.Test.YthpjfkmhpoeojaaGreatDoorAmItoa
import Derived.SevenTiedAt
import Derived.LaidMore
import Derived.Lay
namespace Go.Proofs.YthpjfkmhpoeojaaGreatDoor
open Go Go.AM
set_option linter.unusedSimpArgs false
set_option linter.unusedVariables false
set_option maxRecDepth 100000
open Go.ChangeShapes Go.WideShapes Go.RowKit
theorem tagsDoes_hL (W : World) (h : laidMetH Tryz.prog Rows.tagsDoesRow.laid W) : LaidOK W (fun b => b < W.heap.size) :=
  laidOK_one rfl (laid_tab h (name := "internal/strconv.uint64pow10") (k := .u64) (zs := Go.Lib.pow10Tab) (g := 0) (t := 142) (e := 130) (n := 20) (by kernel_rfl) (by kernel_rfl) (by kernel_rfl) (by kernel_rfl) (by kernel_rfl) (by kernel_rfl) (by kernel_rfl))
theorem tagsDoes_lifted (os : Os) (started : os.Started) (H : Type) (enc : TypeId × Value → H) :
    ReturnsInHanded {} Tryz.checked os 3 .any (fun w args => (Rows.tagsDoesSpec.pre enc Tryz.prog Tryz.f3 [] false w args ∧ laidMetH Tryz.prog Rows.tagsDoesRow.laid w) ∧ sizedMet enc Tryz.prog Tryz.f3 (OpenSpec.ofChange Rows.tagsDoesSpec) false w args) (Rows.tagsDoesSpec.post enc Tryz.prog Tryz.f3 false true false false) := by
  refine law_lifted_laid (C := Tryz.checked) (s := Rows.tagsDoesSpec) (ts := [22]) (tb := 4) (laid := Rows.tagsDoesRow.laid) am_own started (by kernel_rfl) Tryz.func3
    (ChangeSpec.witness_shaped (enc := enc) (C := Tryz.checked) (os := os) (X := fun w _ => laidMetH Tryz.prog Rows.tagsDoesRow.laid w) false (World.doorLaid Tryz.prog 400 os) #[.slice none 0 0] 8 rfl (World.shaped_of_RefB (by kernel_rfl) (by kernel_rfl)) (by kernel_rfl) (by kernel_rfl) (by kernel_rfl) (laidMetH_of_parts3 (fuel := 8) (laidMet_of_run' 8 (by kernel_rfl) (by kernel_rfl)) (by kernel_rfl) (by kernel_rfl)))
    am_laid rfl rfl (by kernel_rfl) rfl (by kernel_rfl) (by kernel_rfl) ?_ ?_ tagsDoes_hL
  · intro ds h
    match ds, h with
    | [d0], _ => rfl
  · intro avs h0; have h : WTA Tryz.prog [22] avs := h0; clear h0
    show Fun Tryz.prog 3 avs _
    obtain ⟨r0, l0, rfl, k0, h⟩ := h.cons_inv; obtain rfl := h.nil_inv; obtain ⟨v0, rfl, hl0, hw0⟩ := open_acts k0; rw [argAV_one am_ag22]; exact does_law v0 hl0 hw0
theorem tagsDoes_holds : Rows.TagsDoesSaid :=
  OpenClaim.holds_of_wide 3 Tryz.f3 rfl rfl rfl rfl rfl rfl rfl ⟨rfl, rfl, rfl, rfl, rfl⟩ rfl rfl rfl rfl rfl (by kernel_rfl) Tryz.func3 (by kernel_rfl)
    (of_decide_eq_true (by kernel_rfl)) (by unfold Func.isWrapper; first | (rw [if_pos (by decide +kernel)]; kernel_rfl) | (rw [if_neg (by decide +kernel)]; exact ⟨rfl, rfl⟩))
    (fun os started H enc _ => tagsDoes_lifted os started H enc)
theorem tagsDoesCard_holds : Rows.TagsDoesCardSaid :=
  Claim7.holds_tied_plain_at .later [] [.data, .data, .data] true (true, "d3ff232638dedd68be9a3914dcea3333e17ec44017c4a7610a82661c059e2b2b") false
    tagsDoes_holds (fun _ h => by cases h) (by kernel_rfl) (fun _ h => by cases h) tagsDoes_row_tie rfl ⟨rfl, rfl⟩ (by kernel_rfl) rfl
    (fun f fn hf hfn => by
      obtain rfl : f = 3 := Option.some.inj ((show Tryz.prog.funcNamed "stirrup/stirruplaw42.TagsDoes" = some 3 by kernel_rfl).symm.trans hf) |>.symm
      obtain rfl : fn = Tryz.f3 := (Option.some.inj (Tryz.func3.symm.trans hfn)).symm
      exact ⟨by kernel_rfl, fun j t ht => by
        rw [show Tryz.f3.params = #[22] by kernel_rfl] at ht
        have hm : t ∈ [22] := by simpa using Array.mem_of_getElem? ht
        have hall : ([22].all fun u => !Tryz.prog.wantsStandIn u) = true := by kernel_rfl
        exact (show Tryz.prog.wantsStandIn t = false by simpa using List.all_eq_true.1 hall t hm)⟩)
    (by kernel_rfl)
#print axioms tagsDoesCard_holds
end Go.Proofs.YthpjfkmhpoeojaaGreatDoor
