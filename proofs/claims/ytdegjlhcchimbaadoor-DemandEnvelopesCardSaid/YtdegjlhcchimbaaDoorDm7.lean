/-
  Chapter 23: Same, walked.
  Conditions: none.
-/
import Derived.Test.YtdegjlhcchimbaaDoorDm3
namespace Go.Proofs.YtdegjlhcchimbaaDoor
open Go Go.AM
set_option linter.unusedSimpArgs false
set_option linter.unusedVariables false
set_option maxRecDepth 100000
set_option maxHeartbeats 1000000

instance : DecidableEq Bx := fun a b => decidable_of_iff (a.lx = b.lx ∧ a.ly = b.ly ∧ a.lz = b.lz ∧ a.hx = b.hx ∧ a.hy = b.hy ∧ a.hz = b.hz) (by cases a; cases b; simp)
instance : DecidableEq Dem := fun a b => decidable_of_iff (a.name = b.name ∧ a.zone = b.zone ∧ a.steps = b.steps) (by cases a; cases b; simp)
theorem dem_ext {a b : Dem} (h1 : a.name = b.name) (h2 : a.zone = b.zone) (h3 : a.steps = b.steps) : a = b := by cases a; cases b; simp_all
theorem zone_eq {a b : Bx} (h : (!((decide (a.lx = b.lx) && (decide (a.ly = b.ly) && (decide (a.lz = b.lz) && true))) && (decide (a.hx = b.hx) && (decide (a.hy = b.hy) && (decide (a.hz = b.hz) && true))))) = false) : a = b := by
  cases a; cases b
  simp only [Bool.and_true, Bool.not_eq_false', Bool.and_eq_true, decide_eq_true_eq] at h
  simp [h]
theorem pair_eq {a b c d : Int} (h : (!(decide (a = c) && (decide (b = d) && true))) = false) : (a, b) = (c, d) := by
  simp only [Bool.and_true, Bool.not_eq_false', Bool.and_eq_true, decide_eq_true_eq] at h
  simp [h]
theorem take_eqs {T : Type} {a b : List T} (h : b.take a.length = a) (hl : a.length = b.length) : a = b := by rw [← h, hl, List.take_length]
theorem take_step {T : Type} {b pre : List T} {x : T} (h : b.take pre.length = pre) (hx : b[pre.length]? = some x) : b.take (pre ++ [x]).length = pre ++ [x] := by
  rw [List.length_append, List.length_singleton, List.take_add_one, h, hx]
  rfl
theorem at_eq {T : Type} {a b : List T} {i : Nat} {x y : T} (h : a = b) (hx : a[i]? = some x) (hy : b[i]? = some y) : x = y := by subst h; rw [hx] at hy; exact Option.some.inj hy
end Go.Proofs.YtdegjlhcchimbaaDoor
