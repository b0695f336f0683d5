/-
  The statement ScheduleAdds: for every input the law returns true and its arguments read as before.
  Conditions: none.
-/
import Derived.Test.YtddogeicmhbidaaDoorLa5
import Derived.Test.YtddogeicmhbidaaDoorAmFactl
import Derived.Test.YtddogeicmhbidaaDoorAmLaw
import Derived.Test.YtddogeicmhbidaaDoorOpen
import Derived.Test.YtddogeicmhbidaaDoorTie
import Derived.Test.YtddogeicmhbidaaDoorCards
import Derived.Test.YtddogeicmhbidaaDoorAmItoa
import Derived.SevenTiedAt
import Derived.LaidMore
namespace Go.Proofs.YtddogeicmhbidaaDoor
open Go Go.AM
set_option linter.unusedSimpArgs false
set_option linter.unusedVariables false
set_option maxRecDepth 100000
open Go.ChangeShapes Go.WideShapes Go.RowKit

theorem scheduleAdds_hL (W : World) (h : laidMetH Tryd.prog Rows.scheduleAddsRow.laid W) : LaidOK W (fun b => b < W.heap.size) :=
  laidOK_one rfl (laid_tab h (name := "internal/strconv.uint64pow10") (k := .u64) (zs := Go.Lib.pow10Tab) (g := 0) (t := 143) (e := 117) (n := 20) (by kernel_rfl) (by kernel_rfl) (by kernel_rfl) (by kernel_rfl) (by kernel_rfl) (by kernel_rfl) (by kernel_rfl))
theorem scheduleAdds_lifted (os : Os) (started : os.Started) (H : Type) (enc : TypeId × Value → H) :
    ReturnsInHanded {} Tryd.checked os 6 .any (fun w args => (Rows.scheduleAddsSpec.pre enc Tryd.prog Tryd.f6 [] false w args ∧ laidMetH Tryd.prog Rows.scheduleAddsRow.laid w) ∧ sizedMet enc Tryd.prog Tryd.f6 (OpenSpec.ofChange Rows.scheduleAddsSpec) false w args) (Rows.scheduleAddsSpec.post enc Tryd.prog Tryd.f6 false true false false) := by
  refine law_lifted_laid (C := Tryd.checked) (s := Rows.scheduleAddsSpec) (ts := [22, 22]) (tb := 4) (laid := Rows.scheduleAddsRow.laid) am_own started (by kernel_rfl) Tryd.func6
    (ChangeSpec.witness_shaped (enc := enc) (C := Tryd.checked) (os := os) (X := fun w _ => laidMetH Tryd.prog Rows.scheduleAddsRow.laid w) false (World.doorLaid Tryd.prog 400 os) #[.slice none 0 0, .slice none 0 0] 8 rfl (World.shaped_of_RefB (by kernel_rfl) (by kernel_rfl)) (by kernel_rfl) (by kernel_rfl) (by kernel_rfl) (laidMetH_of_parts3 (fuel := 8) (laidMet_of_run' 8 (by kernel_rfl) (by kernel_rfl)) (by kernel_rfl) (by kernel_rfl)))
    am_laid rfl rfl (by kernel_rfl) rfl (by kernel_rfl) (by kernel_rfl) ?_ ?_ scheduleAdds_hL
  · intro ds h
    match ds, h with
    | [d0, d1], _ => rfl
  · intro avs h0
    have h : WTA Tryd.prog [22, 22] avs := h0
    clear h0
    show Fun Tryd.prog 6 avs _
    obtain ⟨r0, l0, rfl, k0, h⟩ := h.cons_inv
    obtain ⟨r1, l1, rfl, k1, h⟩ := h.cons_inv
    obtain rfl := h.nil_inv
    obtain ⟨v0, rfl, hl0, hw0⟩ := open_bars k0
    obtain ⟨v1, rfl, hl1, hw1⟩ := open_bars k1
    rw [argAV_one am_ag22, argAV_one am_ag22]
    exact adds_law v0 v1 hl0 hl1
theorem scheduleAdds_holds : Rows.ScheduleAddsSaid :=
  OpenClaim.holds_of_wide 6 Tryd.f6 rfl rfl rfl rfl rfl rfl rfl ⟨rfl, rfl, rfl, rfl, rfl⟩ rfl rfl rfl rfl rfl (by kernel_rfl) Tryd.func6 (by kernel_rfl)
    (of_decide_eq_true (by kernel_rfl)) (by unfold Func.isWrapper; first | (rw [if_pos (by decide +kernel)]; kernel_rfl) | (rw [if_neg (by decide +kernel)]; exact ⟨rfl, rfl⟩))
    (fun os started H enc _ => scheduleAdds_lifted os started H enc)
theorem scheduleAddsCard_holds : Rows.ScheduleAddsCardSaid :=
  Claim7.holds_tied_plain_at .later [] [.data, .data, .data] true (true, "979444ab44f941e470009b058e38c724d2c0fe97fe82474970497bb7560e853a") false
    scheduleAdds_holds (fun _ h => by cases h) (by kernel_rfl) (fun _ h => by cases h) scheduleAdds_row_tie rfl ⟨rfl, rfl⟩ (by kernel_rfl) rfl
    (fun f fn hf hfn => by
      obtain rfl : f = 6 := Option.some.inj ((show Tryd.prog.funcNamed "stirrup/stirruplaw14.ScheduleAdds" = some 6 by kernel_rfl).symm.trans hf) |>.symm
      obtain rfl : fn = Tryd.f6 := (Option.some.inj (Tryd.func6.symm.trans hfn)).symm
      exact ⟨by kernel_rfl, fun j t ht => by
        rw [show Tryd.f6.params = #[22, 22] by kernel_rfl] at ht
        have hm : t ∈ [22, 22] := by simpa using Array.mem_of_getElem? ht
        have hall : ([22, 22].all fun u => !Tryd.prog.wantsStandIn u) = true := by kernel_rfl
        exact (show Tryd.prog.wantsStandIn t = false by simpa using List.all_eq_true.1 hall t hm)⟩)
    (by kernel_rfl)

#print axioms scheduleAddsCard_holds
end Go.Proofs.YtddogeicmhbidaaDoor
