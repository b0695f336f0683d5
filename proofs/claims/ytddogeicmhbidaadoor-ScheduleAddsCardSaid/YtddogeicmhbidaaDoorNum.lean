/-
  Decimal numerals.
  Conditions: none.
-/
import Derived.Test.YtddogeicmhbidaaDoorBase
import Derived.Test.YtddogeicmhbidaaDoorAmItoa
import Derived.Test.YtddogeicmhbidaaDoorAmBld
import Derived.Shelf.Lay
import Derived.Ground.NamesProg
namespace Go.Proofs.YtddogeicmhbidaaDoor
open Go Go.AM
set_option linter.unusedSimpArgs false
set_option linter.unusedVariables false
set_option maxRecDepth 100000
open Go.Lib in
theorem dec_len : ∀ (k u : Nat), u < 10 ^ (k + 1) → (decDigits u).length ≤ k + 1 := by
  intro k
  induction k with
  | zero =>
    intro u h
    rw [decDigits, dif_pos (by omega)]
    simp
  | succ k ih =>
    intro u h
    rw [decDigits]
    split
    · simp
    · have := ih (u / 10) (by rw [Nat.pow_succ] at h; omega)
      simp only [List.length_append, List.length_singleton]
      omega
theorem itoa_len {N : Int} (h0 : 0 ≤ N) (h1 : N ≤ 1099511627777) : (Go.Lib.itoa N).length ≤ 21 := by
  obtain ⟨u, rfl⟩ : ∃ u : Nat, N = u := ⟨N.toNat, by omega⟩
  rw [Go.Lib.itoa_nonneg]
  have := dec_len 20 u (by omega)
  omega
/-- The decimal digits of a number, none for 0. -/
def digZ (n : Int) : List UInt8 := if n = 0 then [] else Go.Lib.itoa n
theorem digZ_pos {n : Int} (h : 0 < n) : digZ n = digZ (n / 10) ++ [UInt8.ofNat (48 + n % 10).toNat] := by
  obtain ⟨u, rfl⟩ : ∃ u : Nat, n = u := ⟨n.toNat, by omega⟩
  have e : ((u : Int) % 10).toNat = u % 10 := by omega
  have e0 : (48 + (u : Int) % 10).toNat = 48 + u % 10 := by omega
  have e2 : ((u : Int) / 10) = ((u / 10 : Nat) : Int) := by omega
  rw [e0, e2, digZ, if_neg (by omega), Go.Lib.itoa_nonneg, Go.Lib.decDigits]
  by_cases h10 : u < 10
  · rw [dif_pos h10, digZ, if_pos (by omega), Nat.mod_eq_of_lt h10]; rfl
  · rw [dif_neg h10, digZ, if_neg (by omega), Go.Lib.itoa_nonneg]
theorem dig_byte {n : Int} (h : 0 ≤ n) : [[AV.lit (.int .u8 (48 + n % 10))]] = [UInt8.ofNat (48 + n % 10).toNat].map byteC := by
  have : ((UInt8.ofNat (48 + n % 10).toNat).toNat : Int) = 48 + n % 10 := by
    rw [UInt8.toNat_ofNat']
    omega
  simp only [List.map_cons, List.map_nil, byteC, this]
open Go.Shelf in
shelf_lay LaysM.n171 Nm 171 at Tryd as lays171
theorem itoa41_fun {n : Int} (h0 : 0 ≤ n) (h1 : n ≤ 1099511627777) : Fun Tryd.prog 42 [.lit (.int .i64 n)] (Ret (.lit (str (Go.Lib.itoa n))) []) :=
  itoa_fun lays171 ⟨_, Tryd.func42, rfl, rfl⟩ (g := 0) (by kernel_rfl) (by unfold laidG; exact List.mem_singleton.2 rfl) (by omega) (by omega)
end Go.Proofs.YtddogeicmhbidaaDoor
