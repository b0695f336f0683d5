/-
  Decimal numerals of the answer.
  Conditions: none.
-/
import Derived.Test.YthpjfkmhpoeojaaDoorBd1
import Derived.Test.YthpjfkmhpoeojaaDoorAmBld
namespace Go.Proofs.YthpjfkmhpoeojaaDoor
open Go Go.AM
set_option linter.unusedSimpArgs false
set_option linter.unusedVariables false
set_option maxRecDepth 100000
set_option maxHeartbeats 1000000

theorem dig_init {n : Int} (h : 0 ≤ n) : Go.Lib.itoa n = if n = 0 ∧ ([] : List UInt8) = [] then [48] else digZ n ++ [] := by
  by_cases h0 : n = 0
  · subst h0
    rw [if_pos ⟨rfl, rfl⟩, show (0 : Int) = ((0 : Nat) : Int) from rfl, Go.Lib.itoa_nonneg, Go.Lib.decDigits]
    rfl
  · rw [if_neg (fun h => h0 h.1), List.append_nil, digZ, if_neg h0]
theorem dig_step {N m : Int} {out : List UInt8} (h0 : 0 ≤ m) (h : Go.Lib.itoa N = if m = 0 ∧ out = [] then [48] else digZ m ++ out) (hc : 0 < m ∨ out.length < 1) :
    Go.Lib.itoa N = if m / 10 = 0 ∧ [UInt8.ofNat (48 + m % 10).toNat] ++ out = [] then [48] else digZ (m / 10) ++ ([UInt8.ofNat (48 + m % 10).toNat] ++ out) := by
  rw [if_neg (fun h => by simp at h)]
  by_cases hm : 0 < m
  · rw [if_neg (fun h => by omega), digZ_pos hm, List.append_assoc] at h
    exact h
  · obtain rfl : m = 0 := by omega
    obtain rfl : out = [] := List.eq_nil_of_length_eq_zero (by omega)
    rw [if_pos ⟨rfl, rfl⟩] at h
    rw [h]; rfl
theorem dig_end {N m : Int} {out : List UInt8} (h : Go.Lib.itoa N = if m = 0 ∧ out = [] then [48] else digZ m ++ out) (h0 : 0 ≤ m) (h1 : ¬ 0 < m) (h2 : ¬ out.length < 1) : out = Go.Lib.itoa N := by
  obtain rfl : m = 0 := by omega
  rw [if_neg (fun h => by rw [h.2] at h2; exact h2 (by decide))] at h
  rw [h]; rfl
theorem dig_len {N m : Int} {out : List UInt8} (hN : 0 ≤ N ∧ N ≤ 1099511627777) (h : Go.Lib.itoa N = if m = 0 ∧ out = [] then [48] else digZ m ++ out) : out.length ≤ 21 := by
  have h1 := itoa_len hN.1 hN.2
  rw [h] at h1
  split at h1
  · rename_i e; rw [e.2]; decide
  · rw [List.length_append] at h1; omega


end Go.Proofs.YthpjfkmhpoeojaaDoor
