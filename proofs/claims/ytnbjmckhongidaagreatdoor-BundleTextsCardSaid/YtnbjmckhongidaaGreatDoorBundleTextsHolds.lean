/-
  The statement BundleTexts: for every input the law returns true and its arguments read as before.
  Conditions: none.
-/
import Derived.Test.YtnbjmckhongidaaGreatDoorLw0
import Derived.Test.YtnbjmckhongidaaGreatDoorOpenb
import Derived.Test.YtnbjmckhongidaaGreatDoorAmFactl
import Derived.Test.YtnbjmckhongidaaGreatDoorAmLaw
import Derived.Test.YtnbjmckhongidaaGreatDoorOpen
import Derived.Test.YtnbjmckhongidaaGreatDoorTie
import Derived.Test.YtnbjmckhongidaaGreatDoorCards
import Derived.Test.YtnbjmckhongidaaGreatDoorAmItoa
import Derived.SevenTiedAt
import Derived.LaidMore
import Derived.Lay
namespace Go.Proofs.YtnbjmckhongidaaGreatDoor
open Go Go.AM
set_option linter.unusedSimpArgs false
set_option linter.unusedVariables false
set_option maxRecDepth 100000
open Go.ChangeShapes Go.WideShapes Go.RowKit

theorem am_star : "*" ++ "errors.errorString" = "*errors.errorString" := by decide
theorem am_estr (u : TypeId) (h : Tryz.prog.typeName? 3 u = some "*errors.errorString") : u = 156 :=
  typeName_ptr_named (nm := "errors.errorString") (by rw [am_star]; kernel_rfl) (by kernel_rfl) (by decide) u (by rw [am_star]; exact h)
theorem bundleTexts_hL (W : World) (h : laidMetH Tryz.prog Rows.bundleTextsRow.laid W) : LaidOK W (fun b => b < W.heap.size) :=
  laidOK_ones rfl (laid_tab h (name := "internal/strconv.uint64pow10") (k := .u64) (zs := Go.Lib.pow10Tab) (g := 1) (t := 127) (e := 107) (n := 20) (by kernel_rfl) (by kernel_rfl) (by kernel_rfl) (by kernel_rfl) (by kernel_rfl) (by kernel_rfl) (by kernel_rfl)) (fun g hg => by
    have hg2 : g ∈ ([2, 3] : List Nat) := hg
    simp only [List.mem_cons, List.not_mem_nil, or_false] at hg2
    rcases hg2 with rfl | rfl
    · exact laid_sent h (name := "strconv.ErrSyntax") (nm := "*errors.errorString") (text := [105, 110, 118, 97, 108, 105, 100, 32, 115, 121, 110, 116, 97, 120]) (by kernel_rfl) (by kernel_rfl) (by kernel_rfl) Tryz.underlying52 am_estr Tryz.underlying156 Tryz.underlying158 rfl rfl Tryz.underlying9 (by kernel_rfl) (by kernel_rfl) (by kernel_rfl)
    · exact laid_sent h (name := "strconv.ErrRange") (nm := "*errors.errorString") (text := [118, 97, 108, 117, 101, 32, 111, 117, 116, 32, 111, 102, 32, 114, 97, 110, 103, 101]) (by kernel_rfl) (by kernel_rfl) (by kernel_rfl) Tryz.underlying52 am_estr Tryz.underlying156 Tryz.underlying158 rfl rfl Tryz.underlying9 (by kernel_rfl) (by kernel_rfl) (by kernel_rfl))
theorem bundleTexts_lifted (os : Os) (started : os.Started) (H : Type) (enc : TypeId × Value → H) :
    ReturnsInHanded {} Tryz.checked os 3 .any (fun w args => (Rows.bundleTextsSpec.pre enc Tryz.prog Tryz.f3 [] false w args ∧ laidMetH Tryz.prog Rows.bundleTextsRow.laid w) ∧ sizedMet enc Tryz.prog Tryz.f3 (OpenSpec.ofChange Rows.bundleTextsSpec) false w args) (Rows.bundleTextsSpec.post enc Tryz.prog Tryz.f3 false true false false) := by
  refine law_lifted_laid (C := Tryz.checked) (s := Rows.bundleTextsSpec) (ts := [22, 9]) (tb := 4) (laid := Rows.bundleTextsRow.laid) am_own started (by kernel_rfl) Tryz.func3
    (ChangeSpec.witness_shaped (enc := enc) (C := Tryz.checked) (os := os) (X := fun w _ => laidMetH Tryz.prog Rows.bundleTextsRow.laid w) false (World.laidAll Tryz.prog os Rows.bundleTextsRow.laid) #[.slice none 0 0, .string ByteArray.empty] 8 (World.laidAll_os _ _ _) (World.shaped_of_ZipB (by kernel_rfl) (by kernel_rfl)) (by kernel_rfl) (by kernel_rfl) (by kernel_rfl) (by rw [MakeChecks.laidMetH_plain _ _ _ (by kernel_rfl)]; exact laidMet_laidAll _ (by kernel_rfl) (by kernel_rfl)))
    am_laid rfl rfl (by kernel_rfl) rfl (by kernel_rfl) (by kernel_rfl) ?_ ?_ bundleTexts_hL
  · intro ds h
    match ds, h with
    | [d0, d1], _ => rfl
  · intro avs h0
    have h : WTA Tryz.prog [22, 9] avs := h0
    clear h0
    show Fun Tryz.prog 3 avs _
    obtain ⟨r0, l0, rfl, k0, h⟩ := h.cons_inv
    obtain ⟨r1, l1, rfl, k1, h⟩ := h.cons_inv
    obtain rfl := h.nil_inv
    obtain ⟨v0, rfl, hl0⟩ := open_buns k0
    obtain ⟨v1, rfl, hl1⟩ := open_string k1
    rw [argAV_one am_ag22, argAV_one am_ag9]
    exact texts_law v0 v1 hl0 hl1
theorem bundleTexts_holds : Rows.BundleTextsSaid :=
  OpenClaim.holds_of_wide 3 Tryz.f3 rfl rfl rfl rfl rfl rfl rfl ⟨rfl, rfl, rfl, rfl, rfl⟩ rfl rfl rfl rfl rfl (by kernel_rfl) Tryz.func3 (by kernel_rfl)
    (of_decide_eq_true (by kernel_rfl)) (by unfold Func.isWrapper; first | (rw [if_pos (by decide +kernel)]; kernel_rfl) | (rw [if_neg (by decide +kernel)]; exact ⟨rfl, rfl⟩))
    (fun os started H enc _ => bundleTexts_lifted os started H enc)
theorem bundleTextsCard_holds : Rows.BundleTextsCardSaid :=
  Claim7.holds_tied_plain_at .later [] [.data, .data, .data, .data, .sentinel, .sentinel, .pinned] true (true, "08f127db9b5de807a19e17233332c931b7033930740217c236365a9b7da94950") true
    bundleTexts_holds (fun _ h => by cases h) (by kernel_rfl) (fun _ h => by cases h) bundleTexts_row_tie rfl ⟨rfl, rfl⟩ (by kernel_rfl) rfl
    (fun f fn hf hfn => by
      obtain rfl : f = 3 := Option.some.inj ((show Tryz.prog.funcNamed "stirrup/stirruplaw36.BundleTexts" = some 3 by kernel_rfl).symm.trans hf) |>.symm
      obtain rfl : fn = Tryz.f3 := (Option.some.inj (Tryz.func3.symm.trans hfn)).symm
      exact ⟨by kernel_rfl, fun j t ht => by
        rw [show Tryz.f3.params = #[22, 9] by kernel_rfl] at ht
        have hm : t ∈ [22, 9] := by simpa using Array.mem_of_getElem? ht
        have hall : ([22, 9].all fun u => !Tryz.prog.wantsStandIn u) = true := by kernel_rfl
        exact (show Tryz.prog.wantsStandIn t = false by simpa using List.all_eq_true.1 hall t hm)⟩)
    (by kernel_rfl)

#print axioms bundleTextsCard_holds
end Go.Proofs.YtnbjmckhongidaaGreatDoor
