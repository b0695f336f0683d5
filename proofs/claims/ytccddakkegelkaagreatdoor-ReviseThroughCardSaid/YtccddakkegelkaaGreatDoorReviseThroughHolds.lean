/-
  The statement ReviseThrough: for every input the law returns true and its arguments read as before.
  Conditions: none.
-/
import Derived.Test.YtccddakkegelkaaGreatDoorRv8
import Derived.Test.YtccddakkegelkaaGreatDoorAmFactl
import Derived.Test.YtccddakkegelkaaGreatDoorAmLaw
import Derived.Test.YtccddakkegelkaaGreatDoorOpen
import Derived.Test.YtccddakkegelkaaGreatDoorTie
import Derived.Test.YtccddakkegelkaaGreatDoorCards
import Derived.Test.YtccddakkegelkaaGreatDoorAmItoa
import Derived.SevenTiedAt
import Derived.LaidMore
import Derived.Lay
namespace Go.Proofs.YtccddakkegelkaaGreatDoor
open Go Go.AM
set_option linter.unusedSimpArgs false
set_option linter.unusedVariables false
set_option maxRecDepth 100000
open Go.ChangeShapes Go.WideShapes Go.RowKit

theorem reviseThrough_hL (W : World) (h : laidMetH Tryz.prog Rows.reviseThroughRow.laid W) : LaidOK W (fun b => b < W.heap.size) :=
  laidOK_one rfl (laid_tab h (name := "internal/strconv.uint64pow10") (k := .u64) (zs := Go.Lib.pow10Tab) (g := 1) (t := 155) (e := 116) (n := 20) (by kernel_rfl) (by kernel_rfl) (by kernel_rfl) (by kernel_rfl) (by kernel_rfl) (by kernel_rfl) (by kernel_rfl))
theorem reviseThrough_lifted (os : Os) (started : os.Started) (H : Type) (enc : TypeId × Value → H) :
    ReturnsInHanded {} Tryz.checked os 4 .any (fun w args => (Rows.reviseThroughSpec.pre enc Tryz.prog Tryz.f4 [] false w args ∧ laidMetH Tryz.prog Rows.reviseThroughRow.laid w) ∧ sizedMet enc Tryz.prog Tryz.f4 (OpenSpec.ofChange Rows.reviseThroughSpec) false w args) (Rows.reviseThroughSpec.post enc Tryz.prog Tryz.f4 false true false false) := by
  refine law_lifted_laid (C := Tryz.checked) (s := Rows.reviseThroughSpec) (ts := [22, 22, 22]) (tb := 4) (laid := Rows.reviseThroughRow.laid) am_own started (by kernel_rfl) Tryz.func4
    (ChangeSpec.witness_shaped (enc := enc) (C := Tryz.checked) (os := os) (X := fun w _ => laidMetH Tryz.prog Rows.reviseThroughRow.laid w) false (World.laidAll Tryz.prog os Rows.reviseThroughRow.laid) #[.slice none 0 0, .slice none 0 0, .slice none 0 0] 8 (World.laidAll_os _ _ _) (World.shaped_of_ZipB (by kernel_rfl) (by kernel_rfl)) (by kernel_rfl) (by kernel_rfl) (by kernel_rfl) (by rw [MakeChecks.laidMetH_plain _ _ _ (by kernel_rfl)]; exact laidMet_laidAll _ (by kernel_rfl) (by kernel_rfl)))
    am_laid rfl rfl (by kernel_rfl) rfl (by kernel_rfl) (by kernel_rfl) ?_ ?_ reviseThrough_hL
  · intro ds h
    match ds, h with
    | [d0, d1, d2], _ => rfl
  · intro avs h0
    have h : WTA Tryz.prog [22, 22, 22] avs := h0
    clear h0
    show Fun Tryz.prog 4 avs _
    obtain ⟨r0, l0, rfl, k0, h⟩ := h.cons_inv
    obtain ⟨r1, l1, rfl, k1, h⟩ := h.cons_inv
    obtain ⟨r2, l2, rfl, k2, h⟩ := h.cons_inv
    obtain rfl := h.nil_inv
    obtain ⟨v0, rfl, hl0, hw0⟩ := open_bars k0
    obtain ⟨v1, rfl, hl1, hw1⟩ := open_bars k1
    obtain ⟨v2, rfl, hl2, hw2⟩ := open_bars k2
    rw [argAV_one am_ag22, argAV_one am_ag22, argAV_one am_ag22]
    exact through_law v0 v1 v2 hl0 hw0 hl1 hw1 hl2 hw2
theorem reviseThrough_holds : Rows.ReviseThroughSaid :=
  OpenClaim.holds_of_wide 4 Tryz.f4 rfl rfl rfl rfl rfl rfl rfl ⟨rfl, rfl, rfl, rfl, rfl⟩ rfl rfl rfl rfl rfl (by kernel_rfl) Tryz.func4 (by kernel_rfl)
    (of_decide_eq_true (by kernel_rfl)) (by unfold Func.isWrapper; first | (rw [if_pos (by decide +kernel)]; kernel_rfl) | (rw [if_neg (by decide +kernel)]; exact ⟨rfl, rfl⟩))
    (fun os started H enc _ => reviseThrough_lifted os started H enc)
theorem reviseThroughCard_holds : Rows.ReviseThroughCardSaid :=
  Claim7.holds_tied_plain_at .later [] [.data, .data, .data, .data, .pinned] true (true, "42287a4df8a9373d14a918b13375ac4c2c60e6f98ee162f799c4f07c14a8e371") false
    reviseThrough_holds (fun _ h => by cases h) (by kernel_rfl) (fun _ h => by cases h) reviseThrough_row_tie rfl ⟨rfl, rfl⟩ (by kernel_rfl) rfl
    (fun f fn hf hfn => by
      obtain rfl : f = 4 := Option.some.inj ((show Tryz.prog.funcNamed "stirrup/stirruplaw41.ReviseThrough" = some 4 by kernel_rfl).symm.trans hf) |>.symm
      obtain rfl : fn = Tryz.f4 := (Option.some.inj (Tryz.func4.symm.trans hfn)).symm
      exact ⟨by kernel_rfl, fun j t ht => by
        rw [show Tryz.f4.params = #[22, 22, 22] by kernel_rfl] at ht
        have hm : t ∈ [22, 22, 22] := by simpa using Array.mem_of_getElem? ht
        have hall : ([22, 22, 22].all fun u => !Tryz.prog.wantsStandIn u) = true := by kernel_rfl
        exact (show Tryz.prog.wantsStandIn t = false by simpa using List.all_eq_true.1 hall t hm)⟩)
    (by kernel_rfl)

#print axioms reviseThroughCard_holds
end Go.Proofs.YtccddakkegelkaaGreatDoor
