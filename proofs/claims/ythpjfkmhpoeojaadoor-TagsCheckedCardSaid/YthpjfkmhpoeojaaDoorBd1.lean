/-
  Bundles: plain laws.
  Conditions: none.
-/
import Derived.Test.YthpjfkmhpoeojaaDoorSched
import Derived.Test.YthpjfkmhpoeojaaDoorBend
import Derived.Test.YthpjfkmhpoeojaaDoorAmItoa
import Derived.Test.YthpjfkmhpoeojaaDoorAmBld
namespace Go.Proofs.YthpjfkmhpoeojaaDoor
open Go Go.AM
set_option linter.unusedSimpArgs false
set_option linter.unusedVariables false
set_option maxRecDepth 100000

/-- A bundle. -/
structure Bundle where
  tag : List UInt8
  mark : List UInt8
  count : Int
  mass : Int
  deriving DecidableEq
def Bundle.c : Bundle → List AV
  | ⟨t, k, n, m⟩ => [.lit (str t), .lit (str k), .lit (.int .i64 n), .lit (.int .i64 m)]
/-- A count, cut into parts of at most w. -/
def chunks (w left : Int) : List Int := if h : 0 < left ∧ 0 < w then min left w :: chunks w (left - min left w) else []
termination_by left.toNat
decreasing_by omega
theorem chunks_pos {w left : Int} (h1 : 0 < left) (h2 : 0 < w) : chunks w left = min left w :: chunks w (left - min left w) := by rw [chunks, dif_pos ⟨h1, h2⟩]
theorem chunks_zero (w : Int) {left : Int} (h : left ≤ 0) : chunks w left = [] := by rw [chunks, dif_neg (by omega)]
theorem chunks_sum {w : Int} (hw : 0 < w) : ∀ (n : Nat) (left : Int), left = n → sumI (chunks w left) = left ∧ (∀ x ∈ chunks w left, 1 ≤ x ∧ x ≤ w ∧ x ≤ left) ∧ (chunks w left).length ≤ n := by
  intro n
  induction n using Nat.strongRecOn with
  | _ n ih =>
    intro left hl
    by_cases h : 0 < left
    · obtain ⟨i1, i2, i3⟩ := ih (left - min left w).toNat (by omega) (left - min left w) (by omega)
      rw [chunks_pos h hw]
      refine ⟨by rw [sumI_cons, i1]; omega, fun x hx => ?_, by rw [List.length_cons]; omega⟩
      rcases List.mem_cons.1 hx with rfl | hx
      · omega
      · have := i2 x hx; omega
    · rw [chunks_zero w (by omega)]
      exact ⟨by rw [show sumI [] = 0 from rfl]; omega, by simp, by simp⟩
/-- A line of a schedule, and how many bars of it. -/
abbrev Unit2 := Bar × Int
def tagOf (k : Nat) : List UInt8 := 116 :: Go.Lib.itoa (k : Int)
def bun (k : Nat) : Unit2 → Bundle
  | (b, n) => ⟨tagOf (k + 1), b.mark, n, n * oneOf b⟩
def bunL : Nat → List Unit2 → List Bundle
  | _, [] => []
  | k, u :: l => bun k u :: bunL (k + 1) l
theorem bunL_len : ∀ (l : List Unit2) (k : Nat), (bunL k l).length = l.length
  | [], _ => rfl
  | u :: l, k => by rw [bunL, List.length_cons, List.length_cons, bunL_len l]
theorem bunL_snoc : ∀ (l : List Unit2) (k : Nat) (u : Unit2), bunL k (l ++ [u]) = bunL k l ++ [bun (k + l.length) u]
  | [], k, u => rfl
  | v :: l, k, u => by
    rw [List.cons_append, bunL, bunL, bunL_snoc l, List.cons_append, List.length_cons]
    congr 4; omega
theorem bunL_get : ∀ (l : List Unit2) (k i : Nat), (bunL k l)[i]? = (l[i]?).map (bun (k + i))
  | [], _, _ => by simp [bunL]
  | u :: l, k, 0 => by simp [bunL]
  | u :: l, k, i + 1 => by
    rw [bunL, List.getElem?_cons_succ, List.getElem?_cons_succ, bunL_get l]
    congr 2; omega
def unitsB (most : Int) (b : Bar) : List Unit2 := (chunks (most / oneOf b) b.count).map (fun n => (b, n))
def units (most : Int) (l : List Bar) : List Unit2 := (l.map (unitsB most)).flatten
theorem units_snoc (most : Int) (l : List Bar) (s : Bar) : units most (l ++ [s]) = units most l ++ unitsB most s := by simp [units]
theorem units_app (most : Int) (l m : List Bar) : units most (l ++ m) = units most l ++ units most m := by simp [units]
theorem one_bd {b : Bar} (h : okBar b) : 1 ≤ oneOf b ∧ oneOf b ≤ 10343154 := by
  obtain ⟨h1, h2, _⟩ := barMass_bd h
  refine ⟨?_, h2⟩
  obtain ⟨c1, c2⟩ := cutOf_bd h
  have hz := h.2.1
  unfold oneOf massOf
  generalize cutOf b = c at c1 c2
  simp only [sizes, List.mem_cons, List.not_mem_nil, or_false] at hz
  rcases hz with e | e | e | e | e | e | e | e | e <;> rw [e] <;> omega
theorem whole_pos {b : Bar} {most : Int} (h : okBar b) (hm : oneOf b ≤ most) : 0 < most / oneOf b ∧ most / oneOf b ≤ most := by
  obtain ⟨h1, _⟩ := one_bd h
  have h3 : 1 ≤ most / oneOf b := (Int.le_ediv_iff_mul_le (by omega)).2 (by omega)
  exact ⟨by omega, Int.ediv_le_self _ (by omega)⟩
def overP (most : Int) (l : List Bar) : Prop := ∃ b ∈ l, decide (most < oneOf b) = true
instance (most l) : Decidable (overP most l) := by unfold overP; infer_instance
/-- The error of making bundles. -/
def makeE (l : List Bar) (most : Int) : Int := if okSched l then (if 1 ≤ most ∧ most ≤ 1099511627776 then (if overP most l then 20 else if (units most l).length ≤ 1000 then 0 else 4) else 2) else 1
def makeV (l : List Bar) (most : Int) : List Bundle := if makeE l most = 0 then bunL 0 (units most l) else []
theorem makeE_ok {l : List Bar} {most : Int} (h : makeE l most = 0) : okSched l ∧ (1 ≤ most ∧ most ≤ 1099511627776) ∧ ¬ overP most l ∧ (units most l).length ≤ 1000 := by
  unfold makeE at h
  split at h
  · split at h
    · split at h
      · cases h
      · split at h
        · exact ⟨by assumption, by assumption, by assumption, by assumption⟩
        · cases h
    · cases h
  · cases h
/-- The state of the inner loop. -/
theorem fill_more {most left : Int} {s : Bar} {q : List Unit2} (hs : okBar s) (hm : oneOf s ≤ most) (h0 : 0 < left) (hq : q ++ (chunks (most / oneOf s) left).map (fun n => (s, n)) = unitsB most s) :
    (q ++ [(s, min left (most / oneOf s))]) ++ (chunks (most / oneOf s) (left - min left (most / oneOf s))).map (fun n => (s, n)) = unitsB most s := by
  rw [chunks_pos h0 (whole_pos hs hm).1] at hq
  rw [← hq]
  simp
theorem fill_full {most left : Int} {l pre suf : List Bar} {s : Bar} {q : List Unit2} (hp : pre ++ s :: suf = l) (hs : okBar s) (hm : oneOf s ≤ most) (h0 : 0 < left) (hq : q ++ (chunks (most / oneOf s) left).map (fun n => (s, n)) = unitsB most s)
    (hf : (units most pre ++ q).length = 1000) : ¬ (units most l).length ≤ 1000 := by
  rw [chunks_pos h0 (whole_pos hs hm).1] at hq
  have e : units most l = units most pre ++ (unitsB most s ++ units most suf) := by
    rw [← hp, units_app]
    simp [units]
  rw [e, ← hq]
  simp only [List.length_append, List.length_map, List.length_cons, List.map_cons] at hf ⊢
  omega
theorem fill_done {most left : Int} {s : Bar} {q : List Unit2} (h0 : ¬ 0 < left) (hq : q ++ (chunks (most / oneOf s) left).map (fun n => (s, n)) = unitsB most s) : q = unitsB most s := by
  rw [chunks_zero _ (by omega)] at hq
  simpa using hq
open Go.Lib in
theorem dec_len : ∀ (k u : Nat), u < 10 ^ (k + 1) → (decDigits u).length ≤ k + 1 := by
  intro k
  induction k with
  | zero =>
    intro u h
    rw [decDigits, dif_pos (by omega)]
    simp
  | succ k ih =>
    intro u h
    rw [decDigits]
    split
    · simp
    · have := ih (u / 10) (by rw [Nat.pow_succ] at h; omega)
      simp only [List.length_append, List.length_singleton]
      omega
theorem itoa_len {N : Int} (h0 : 0 ≤ N) (h1 : N ≤ 1099511627777) : (Go.Lib.itoa N).length ≤ 21 := by
  obtain ⟨u, rfl⟩ : ∃ u : Nat, N = u := ⟨N.toNat, by omega⟩
  rw [Go.Lib.itoa_nonneg]
  have := dec_len 20 u (by omega)
  omega
/-- The decimal digits of a number, none for 0. -/
def digZ (n : Int) : List UInt8 := if n = 0 then [] else Go.Lib.itoa n
theorem digZ_pos {n : Int} (h : 0 < n) : digZ n = digZ (n / 10) ++ [UInt8.ofNat (48 + n % 10).toNat] := by
  obtain ⟨u, rfl⟩ : ∃ u : Nat, n = u := ⟨n.toNat, by omega⟩
  have e : ((u : Int) % 10).toNat = u % 10 := by omega
  have e0 : (48 + (u : Int) % 10).toNat = 48 + u % 10 := by omega
  have e2 : ((u : Int) / 10) = ((u / 10 : Nat) : Int) := by omega
  rw [e0, e2, digZ, if_neg (by omega), Go.Lib.itoa_nonneg, Go.Lib.decDigits]
  by_cases h10 : u < 10
  · rw [dif_pos h10, digZ, if_pos (by omega), Nat.mod_eq_of_lt h10]; rfl
  · rw [dif_neg h10, digZ, if_neg (by omega), Go.Lib.itoa_nonneg]
theorem dig_byte {n : Int} (h : 0 ≤ n) : [[AV.lit (.int .u8 (48 + n % 10))]] = [UInt8.ofNat (48 + n % 10).toNat].map byteC := by
  have : ((UInt8.ofNat (48 + n % 10).toNat).toNat : Int) = 48 + n % 10 := by
    rw [UInt8.toNat_ofNat']
    omega
  simp only [List.map_cons, List.map_nil, byteC, this]
end Go.Proofs.YthpjfkmhpoeojaaDoor
