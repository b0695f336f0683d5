/-
  slices.SortFunc at pieces.
  Conditions: none.
-/
import Derived.Test.YtddogeicmhbidaaGreatDoorPc1
import Derived.Test.YtddogeicmhbidaaGreatDoorAmSort
import Derived.Ground.SlsfProg
namespace Go.Proofs.YtddogeicmhbidaaGreatDoor
open Go Go.AM
set_option linter.unusedSimpArgs false
set_option linter.unusedVariables false
set_option maxRecDepth 100000

open Go.Shelf in
shelf_lay_g SlLaysF0.n6 Slsf 6 at Tryz 26 as sortPieceLay
theorem pcCmp_lt (x y : Int × Int) : ltOf pcCmp x y = decide (y.1 < x.1) := by
  unfold ltOf pcCmp cmpI
  by_cases h : y.1 < x.1
  · rw [if_pos h, decide_eq_true h]; rfl
  · rw [if_neg h, decide_eq_false h]
    split <;> rfl
theorem pcCmp_swo : Go.Sort.SWO (ltOf pcCmp) := by
  refine ⟨fun x => ?_, fun x y z h1 h2 => ?_, fun x y z h1 h2 => ?_⟩
  · rw [pcCmp_lt]; exact decide_eq_false (by omega)
  · rw [pcCmp_lt, decide_eq_true_eq] at *; omega
  · rw [pcCmp_lt, decide_eq_false_iff_not] at *; omega
def pairV (p : Int × Int) : List Value := [.int .i64 p.1, .int .i64 p.2]
theorem pair_enc : EncL pairC pairV 2 := ⟨fun ⟨_, _⟩ => rfl, fun _ => rfl, fun x v hv => by simp only [pairV, List.mem_cons, List.not_mem_nil, or_false] at hv; rcases hv with rfl | rfl <;> rfl⟩
theorem sortPiece_fun (l : List (Int × Int)) (hl : l.length ≤ 1000000) : FunR Tryz.prog 26 [.als 0 0 l.length, .fn (.func 27) [] []] [(0, ⟨true, 33, 2, l.map pairC, true⟩)] 1
    (fun v objs => ∃ l' : List (Int × Int), (l'.Perm l ∧ l'.Pairwise fun x y => y.1 ≤ x.1) ∧ v = .tup [] ∧ objs = [(0, ⟨true, 33, 2, l'.map pairC, true⟩)]) := by
  have h := sortFunc_R sortPieceLay (el := 33) pair_enc ⟨_, Tryz.func26, rfl, rfl⟩ (fun w => run_isAgg am_ag33 w) (fun w => run_cells am_in33 am_cl33 w) (by decide) pcCmp pcCmp_swo (fun x y => pcCmp_fun x y) l (by omega)
  simp only [pcCmp_lt, decide_eq_false_iff_not, Int.not_lt] at h
  exact h
end Go.Proofs.YtddogeicmhbidaaGreatDoor
