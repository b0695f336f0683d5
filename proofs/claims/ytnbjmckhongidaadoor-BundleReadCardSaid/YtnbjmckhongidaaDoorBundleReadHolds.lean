/-
  The statement BundleRead: for every input the law returns true and its arguments read as before.
  Conditions: none.
-/
import Derived.Test.YtnbjmckhongidaaDoorLw0
import Derived.Test.YtnbjmckhongidaaDoorOpenb
import Derived.Test.YtnbjmckhongidaaDoorAmFactl
import Derived.Test.YtnbjmckhongidaaDoorAmLaw
import Derived.Test.YtnbjmckhongidaaDoorOpen
import Derived.Test.YtnbjmckhongidaaDoorTie
import Derived.Test.YtnbjmckhongidaaDoorCards
import Derived.Test.YtnbjmckhongidaaDoorAmItoa
import Derived.SevenTiedAt
import Derived.LaidMore
import Derived.Lay
namespace Go.Proofs.YtnbjmckhongidaaDoor
open Go Go.AM
set_option linter.unusedSimpArgs false
set_option linter.unusedVariables false
set_option maxRecDepth 100000
open Go.ChangeShapes Go.WideShapes Go.RowKit

theorem am_star : "*" ++ "errors.errorString" = "*errors.errorString" := by decide
theorem am_estr (u : TypeId) (h : Tryd.prog.typeName? 3 u = some "*errors.errorString") : u = 175 :=
  typeName_ptr_named (nm := "errors.errorString") (by rw [am_star]; kernel_rfl) (by kernel_rfl) (by decide) u (by rw [am_star]; exact h)
theorem bundleRead_hL (W : World) (h : laidMetH Tryd.prog Rows.bundleReadRow.laid W) : LaidOK W (fun b => b < W.heap.size) :=
  laidOK_ones rfl (laid_tab h (name := "internal/strconv.uint64pow10") (k := .u64) (zs := Go.Lib.pow10Tab) (g := 1) (t := 146) (e := 132) (n := 20) (by kernel_rfl) (by kernel_rfl) (by kernel_rfl) (by kernel_rfl) (by kernel_rfl) (by kernel_rfl) (by kernel_rfl)) (fun g hg => by
    have hg2 : g ∈ ([2, 3] : List Nat) := hg
    simp only [List.mem_cons, List.not_mem_nil, or_false] at hg2
    rcases hg2 with rfl | rfl
    · exact laid_sent h (name := "strconv.ErrSyntax") (nm := "*errors.errorString") (text := [105, 110, 118, 97, 108, 105, 100, 32, 115, 121, 110, 116, 97, 120]) (by kernel_rfl) (by kernel_rfl) (by kernel_rfl) Tryd.underlying91 am_estr Tryd.underlying175 Tryd.underlying177 rfl rfl Tryd.underlying9 (by kernel_rfl) (by kernel_rfl) (by kernel_rfl)
    · exact laid_sent h (name := "strconv.ErrRange") (nm := "*errors.errorString") (text := [118, 97, 108, 117, 101, 32, 111, 117, 116, 32, 111, 102, 32, 114, 97, 110, 103, 101]) (by kernel_rfl) (by kernel_rfl) (by kernel_rfl) Tryd.underlying91 am_estr Tryd.underlying175 Tryd.underlying177 rfl rfl Tryd.underlying9 (by kernel_rfl) (by kernel_rfl) (by kernel_rfl))
theorem bundleRead_lifted (os : Os) (started : os.Started) (H : Type) (enc : TypeId × Value → H) :
    ReturnsInHanded {} Tryd.checked os 8 .any (fun w args => (Rows.bundleReadSpec.pre enc Tryd.prog Tryd.f8 [] false w args ∧ laidMetH Tryd.prog Rows.bundleReadRow.laid w) ∧ sizedMet enc Tryd.prog Tryd.f8 (OpenSpec.ofChange Rows.bundleReadSpec) false w args) (Rows.bundleReadSpec.post enc Tryd.prog Tryd.f8 false true false false) := by
  refine law_lifted_laid (C := Tryd.checked) (s := Rows.bundleReadSpec) (ts := [25, 9]) (tb := 4) (laid := Rows.bundleReadRow.laid) am_own started (by kernel_rfl) Tryd.func8
    (ChangeSpec.witness_shaped (enc := enc) (C := Tryd.checked) (os := os) (X := fun w _ => laidMetH Tryd.prog Rows.bundleReadRow.laid w) false (World.laidAll Tryd.prog os Rows.bundleReadRow.laid) #[.slice none 0 0, .string ByteArray.empty] 8 (World.laidAll_os _ _ _) (World.shaped_of_ZipB (by kernel_rfl) (by kernel_rfl)) (by kernel_rfl) (by kernel_rfl) (by kernel_rfl) (by rw [MakeChecks.laidMetH_plain _ _ _ (by kernel_rfl)]; exact laidMet_laidAll _ (by kernel_rfl) (by kernel_rfl)))
    am_laid rfl rfl (by kernel_rfl) rfl (by kernel_rfl) (by kernel_rfl) ?_ ?_ bundleRead_hL
  · intro ds h
    match ds, h with
    | [d0, d1], _ => rfl
  · intro avs h0
    have h : WTA Tryd.prog [25, 9] avs := h0
    clear h0
    show Fun Tryd.prog 8 avs _
    obtain ⟨r0, l0, rfl, k0, h⟩ := h.cons_inv
    obtain ⟨r1, l1, rfl, k1, h⟩ := h.cons_inv
    obtain rfl := h.nil_inv
    obtain ⟨v0, rfl, hl0⟩ := open_buns k0
    obtain ⟨v1, rfl, hl1⟩ := open_string k1
    rw [argAV_one am_ag25, argAV_one am_ag9]
    exact read_law v0 v1 hl0 hl1
theorem bundleRead_holds : Rows.BundleReadSaid :=
  OpenClaim.holds_of_wide 8 Tryd.f8 rfl rfl rfl rfl rfl rfl rfl ⟨rfl, rfl, rfl, rfl, rfl⟩ rfl rfl rfl rfl rfl (by kernel_rfl) Tryd.func8 (by kernel_rfl)
    (of_decide_eq_true (by kernel_rfl)) (by unfold Func.isWrapper; first | (rw [if_pos (by decide +kernel)]; kernel_rfl) | (rw [if_neg (by decide +kernel)]; exact ⟨rfl, rfl⟩))
    (fun os started H enc _ => bundleRead_lifted os started H enc)
theorem bundleReadCard_holds : Rows.BundleReadCardSaid :=
  Claim7.holds_tied_plain_at .later [] [.data, .data, .data, .data, .sentinel, .sentinel, .pinned] true (true, "1c88245412a0bfa6eac2fe3ae9b5d875a420fc6f4385e9387f33b1d4d9df87a1") true
    bundleRead_holds (fun _ h => by cases h) (by kernel_rfl) (fun _ h => by cases h) bundleRead_row_tie rfl ⟨rfl, rfl⟩ (by kernel_rfl) rfl
    (fun f fn hf hfn => by
      obtain rfl : f = 8 := Option.some.inj ((show Tryd.prog.funcNamed "stirrup/stirruplaw36.BundleRead" = some 8 by kernel_rfl).symm.trans hf) |>.symm
      obtain rfl : fn = Tryd.f8 := (Option.some.inj (Tryd.func8.symm.trans hfn)).symm
      exact ⟨by kernel_rfl, fun j t ht => by
        rw [show Tryd.f8.params = #[25, 9] by kernel_rfl] at ht
        have hm : t ∈ [25, 9] := by simpa using Array.mem_of_getElem? ht
        have hall : ([25, 9].all fun u => !Tryd.prog.wantsStandIn u) = true := by kernel_rfl
        exact (show Tryd.prog.wantsStandIn t = false by simpa using List.all_eq_true.1 hall t hm)⟩)
    (by kernel_rfl)

#print axioms bundleReadCard_holds
end Go.Proofs.YtnbjmckhongidaaDoor
