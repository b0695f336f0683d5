/-
  slices.SortFunc at events.
  Conditions: none.
-/
import Derived.Test.YtigjoaejncfmdaaB12
import Derived.Test.YtigjoaejncfmdaaAmSort
import Derived.Ground.SlsfProg
namespace Go.Proofs.Ytigjoaejncfmdaa
open Go Go.AM
set_option linter.unusedSimpArgs false
set_option linter.unusedVariables false
set_option maxRecDepth 100000

open Go.Shelf in
shelf_lay_g SlLaysF0.n6 Slsf 6 at Try 54 as sortEvLay
theorem evCmp_lt (x y : Ev3) : ltOf evCmp x y = decide (x.1 < y.1 ∨ (x.1 = y.1 ∧ x.2.1 < y.2.1)) := by
  unfold ltOf evCmp
  rw [decide_eq_decide]
  unfold orL orL orL cmpI
  repeat' split
  all_goals omega
theorem evCmp_swo : Go.Sort.SWO (ltOf evCmp) := by
  refine ⟨fun x => ?_, fun x y z h1 h2 => ?_, fun x y z h1 h2 => ?_⟩
  · rw [evCmp_lt]; exact decide_eq_false (by omega)
  · rw [evCmp_lt, decide_eq_true_eq] at *; omega
  · rw [evCmp_lt, decide_eq_false_iff_not] at *; omega
def evV (p : Ev3) : List Value := [.int .i64 p.1, .int .i64 p.2.1, .int .i64 p.2.2]
theorem ev_enc : EncL ev3C evV 3 := ⟨fun ⟨_, _, _⟩ => rfl, fun _ => rfl, fun x v hv => by simp only [evV, List.mem_cons, List.not_mem_nil, or_false] at hv; rcases hv with rfl | rfl | rfl <;> rfl⟩
theorem sortEv_fun (l : List Ev3) (hl : l.length ≤ 1000000) : FunR Try.prog 54 [.als 0 0 l.length, .fn (.func 55) [] []] [(0, ⟨true, 70, 3, l.map ev3C, true⟩)] 1
    (fun v objs => ∃ l' : List Ev3, (l'.Perm l ∧ l'.Pairwise fun x y => x.1 ≤ y.1) ∧ v = .tup [] ∧ objs = [(0, ⟨true, 70, 3, l'.map ev3C, true⟩)]) := by
  have h := sortFunc_R sortEvLay (el := 70) ev_enc ⟨_, Try.func54, rfl, rfl⟩ (fun w => run_isAgg am_ag70 w) (fun w => run_cells am_in70 am_cl70 w) (by decide) evCmp evCmp_swo (fun x y => evCmp_fun x y) l (by omega)
  refine h.mono ?_
  rintro v objs ⟨l', ⟨h1, h2⟩, h3, h4⟩
  refine ⟨l', ⟨h1, h2.imp fun {x y} h => ?_⟩, h3, h4⟩
  rw [evCmp_lt, decide_eq_false_iff_not] at h
  omega
end Go.Proofs.Ytigjoaejncfmdaa
