/-
  Patterns and what they yield: plain laws.
  Conditions: none.
-/
import Derived.Test.YtappnbebcjmlbaaBase
namespace Go.Proofs.Ytappnbebcjmlbaa
open Go Go.AM
set_option linter.unusedSimpArgs false
set_option linter.unusedVariables false
set_option maxRecDepth 100000

abbrev Pat := Int × List Int × Int
def patC : Pat → List AV
  | (a, l, t) => [.lit (.int .i64 a), .sh 1 (l.map intC), .lit (.int .i64 t)]
def okPat (n : Nat) (x : Pat) : Prop := (x.2.1.length : Int) = n ∧ (1 ≤ x.2.2 ∧ x.2.2 ≤ 1000000) ∧ ∀ k ∈ x.2.1, 0 ≤ k ∧ k ≤ 1000000
instance (n x) : Decidable (okPat n x) := by unfold okPat; infer_instance
def patAt (x : Pat) (i : Nat) : Int := (x.2.1[i]?).getD 0 * x.2.2
def sumAt (p : List Pat) (i : Nat) : Int := (p.map fun x => patAt x i).sum
def sumL (p : List Pat) (n : Nat) : List Int := (List.range n).map (sumAt p)
def yieldsP (q : List (Int × Int)) (p : List Pat) : Prop := (∀ x ∈ p, okPat q.length x) ∧ sumL p q.length = q.map (·.2)
instance (q p) : Decidable (yieldsP q p) := by unfold yieldsP; infer_instance
theorem sumAt_snoc (p : List Pat) (x : Pat) (i : Nat) : sumAt (p ++ [x]) i = sumAt p i + patAt x i := by simp [sumAt]
theorem sumL_len (p : List Pat) (n : Nat) : (sumL p n).length = n := by simp [sumL]
theorem sumL_nil (n : Nat) : sumL [] n = List.replicate n 0 := by
  rw [sumL, show sumAt [] = fun _ => (0 : Int) from rfl, List.map_const', List.length_range]
theorem sumL_get (p : List Pat) {n i : Nat} (h : i < n) : (sumL p n)[i]? = some (sumAt p i) := by
  rw [sumL, List.getElem?_map, List.getElem?_range h]; rfl
theorem patAt_bd {n : Nat} {x : Pat} (h : okPat n x) (i : Nat) : 0 ≤ patAt x i ∧ patAt x i ≤ 1000000000000 := by
  have hk : 0 ≤ (x.2.1[i]?).getD 0 ∧ (x.2.1[i]?).getD 0 ≤ 1000000 := by
    cases hi : x.2.1[i]? with
    | none => simp
    | some k => exact h.2.2 k (List.mem_of_getElem? hi)
  have := mul_bd (K := 1000000) (A := 1000000) hk.1 hk.2 (by have := h.2.1.1; omega : 0 ≤ x.2.2) h.2.1.2
  unfold patAt
  omega
theorem sumAt_bd {n : Nat} (i : Nat) : ∀ p : List Pat, (∀ x ∈ p, okPat n x) → 0 ≤ sumAt p i ∧ sumAt p i ≤ 1000000000000 * p.length := by
  refine snoc_ind (fun _ => by simp [sumAt]) ?_
  intro l s ih h
  have i1 := ih fun b hb => h b (by simp [hb])
  have i2 := patAt_bd (h s (by simp)) i
  rw [sumAt_snoc, List.length_append, List.length_singleton]
  omega
/-- The sums with the first 'k' numbers of one more pattern. -/
def sumK (p : List Pat) (x : Pat) (n k : Nat) : List Int := (List.range n).map fun i => if i < k then sumAt (p ++ [x]) i else sumAt p i
theorem sumK_len (p : List Pat) (x : Pat) (n k : Nat) : (sumK p x n k).length = n := by simp [sumK]
theorem sumK_0 (p : List Pat) (x : Pat) (n : Nat) : sumK p x n 0 = sumL p n := by simp [sumK, sumL]
theorem sumK_n (p : List Pat) (x : Pat) (n : Nat) : sumK p x n n = sumL (p ++ [x]) n := by
  rw [sumK, sumL]
  refine List.map_congr_left fun i hi => ?_
  rw [if_pos (List.mem_range.1 hi)]
theorem sumK_get (p : List Pat) (x : Pat) {n k : Nat} (h : k < n) : (sumK p x n k)[k]? = some (sumAt p k) := by
  rw [sumK, List.getElem?_map, List.getElem?_range h]
  simp
theorem sumK_set (p : List Pat) (x : Pat) {n k : Nat} {v : Int} (hv : x.2.1[k]? = some v) : (sumK p x n k).set k (sumAt p k + v * x.2.2) = sumK p x n (k + 1) := by
  apply List.ext_getElem?
  intro i
  rw [List.getElem?_set, sumK_len]
  by_cases hi : i < n
  · have e1 : (sumK p x n (k + 1))[i]? = some (if i < k + 1 then sumAt (p ++ [x]) i else sumAt p i) := by rw [sumK, List.getElem?_map, List.getElem?_range hi]; rfl
    have e2 : (sumK p x n k)[i]? = some (if i < k then sumAt (p ++ [x]) i else sumAt p i) := by rw [sumK, List.getElem?_map, List.getElem?_range hi]; rfl
    rw [e1, e2]
    by_cases hk : k = i
    · subst hk
      rw [if_pos rfl, if_pos hi, if_pos (by omega), sumAt_snoc, patAt, hv]
      rfl
    · rw [if_neg hk]
      by_cases hl : i < k
      · rw [if_pos hl, if_pos (by omega)]
      · rw [if_neg hl, if_neg (by omega)]
  · have e1 : (sumK p x n (k + 1))[i]? = none := List.getElem?_eq_none (by rw [sumK_len]; omega)
    have e2 : (sumK p x n k)[i]? = none := List.getElem?_eq_none (by rw [sumK_len]; omega)
    rw [e1, e2]
    by_cases hk : k = i
    · rw [if_pos hk, if_neg (by omega)]
    · rw [if_neg hk]
theorem yields_all {q : List (Int × Int)} {p : List Pat} (h1 : ∀ x ∈ p, okPat q.length x) (h2 : ∀ i y, q[i]? = some y → sumAt p i = y.2) : yieldsP q p := by
  refine ⟨h1, ?_⟩
  apply List.ext_getElem?
  intro i
  rw [List.getElem?_map]
  by_cases hi : i < q.length
  · rw [sumL_get p hi, List.getElem?_eq_getElem hi, h2 i _ (List.getElem?_eq_getElem hi)]; rfl
  · rw [List.getElem?_eq_none (by rw [sumL_len]; omega), List.getElem?_eq_none (by omega)]; rfl
theorem yields_at {q : List (Int × Int)} {p : List Pat} (h : yieldsP q p) {i : Nat} {y : Int × Int} (hi : q[i]? = some y) : sumAt p i = y.2 := by
  have h1 := congrArg (fun l => l[i]?) h.2
  simp only [List.getElem?_map, hi, Option.map_some] at h1
  rw [sumL_get p (List.getElem?_eq_some_iff.1 hi).1] at h1
  simpa using h1
theorem eqs_snoc {p : List Pat} {pre : List (Int × Int)} {s : Int × Int} (h : ∀ i y, pre[i]? = some y → sumAt p i = y.2) (hs : sumAt p pre.length = s.2) : ∀ i y, (pre ++ [s])[i]? = some y → sumAt p i = y.2 := by
  intro i y hy
  rw [List.getElem?_append] at hy
  split at hy
  · exact h i y hy
  · rename_i hi
    have hi0 : i = pre.length := by
      have := (List.getElem?_eq_some_iff.1 hy).1
      simp only [List.length_singleton] at this
      omega
    subst hi0
    rw [Nat.sub_self] at hy
    simp only [List.getElem?_cons_zero, Option.some.injEq] at hy
    rw [← hy]; exact hs
/-! In any order; none; one pattern for each piece. -/
theorem sum_rev (l : List Int) : l.reverse.sum = l.sum := by
  induction l with
  | nil => rfl
  | cons x l ih => rw [List.reverse_cons, List.sum_append, ih]; simp only [List.sum_cons, List.sum_nil]; omega
theorem yields_rev (q : List (Int × Int)) (p : List Pat) : yieldsP q p.reverse ↔ yieldsP q p := by
  have h : ∀ i, sumAt p.reverse i = sumAt p i := fun i => by rw [sumAt, List.map_reverse, sum_rev, sumAt]
  unfold yieldsP
  rw [show sumL p.reverse q.length = sumL p q.length by rw [sumL, sumL]; exact List.map_congr_left fun i _ => h i]
  simp only [List.mem_reverse]
theorem yields_nil {q : List (Int × Int)} (hc : ∀ y ∈ q, 1 ≤ y.2) : yieldsP q [] ↔ q.length = 0 := by
  constructor
  · intro h
    cases q with
    | nil => rfl
    | cons y q =>
      have h1 := yields_at h (i := 0) (y := y) rfl
      have h2 := hc y (by simp)
      rw [show sumAt [] 0 = 0 from rfl] at h1
      omega
  · intro h
    rw [List.eq_nil_of_length_eq_zero h]
    exact ⟨fun x hx => (by cases hx), rfl⟩
def unitL (n i : Nat) : List Int := (List.replicate n (0 : Int)).set i 1
def singleP (n : Nat) : Nat → List (Int × Int) → List Pat
  | _, [] => []
  | i, y :: l => (0, unitL n i, y.2) :: singleP n (i + 1) l
theorem singleP_snoc (n : Nat) : ∀ (l : List (Int × Int)) (i : Nat) (y : Int × Int), singleP n i (l ++ [y]) = singleP n i l ++ [(0, unitL n (i + l.length), y.2)]
  | [], i, y => by simp [singleP]
  | x :: l, i, y => by
    rw [List.cons_append, singleP, singleP_snoc n l (i + 1) y, singleP, List.length_cons, List.cons_append]
    rw [show i + 1 + l.length = i + (l.length + 1) by omega]
theorem singleP_len (n : Nat) : ∀ (l : List (Int × Int)) (i : Nat), (singleP n i l).length = l.length
  | [], _ => rfl
  | x :: l, i => by rw [singleP, List.length_cons, singleP_len n l, List.length_cons]
theorem unit_len (n i : Nat) : (unitL n i).length = n := by simp [unitL]
theorem unit_mem {n i : Nat} {k : Int} (h : k ∈ unitL n i) : 0 ≤ k ∧ k ≤ 1000000 := by
  rcases List.mem_or_eq_of_mem_set h with h | rfl
  · have := List.eq_of_mem_replicate h; omega
  · omega
theorem unit_at (n i k : Nat) : ((unitL n i)[k]?).getD 0 = if i = k ∧ k < n then 1 else 0 := by
  rw [unitL, List.getElem?_set, List.length_replicate]
  by_cases h : i = k
  · subst h
    rw [if_pos rfl]
    by_cases hk : i < n
    · rw [if_pos hk, if_pos ⟨rfl, hk⟩]; rfl
    · rw [if_neg hk, if_neg (fun e => hk e.2)]; rfl
  · rw [if_neg h, if_neg (fun e => h e.1), List.getElem?_replicate]
    split <;> rfl
theorem single_ok {n : Nat} : ∀ {l : List (Int × Int)} {i : Nat}, (∀ y ∈ l, 1 ≤ y.2 ∧ y.2 ≤ 1000000) → ∀ x ∈ singleP n i l, okPat n x
  | [], _, _, x, hx => by cases hx
  | y :: l, i, h, x, hx => by
    rw [singleP] at hx
    rcases List.mem_cons.1 hx with rfl | hx
    · exact ⟨by simp only; rw [unit_len], h y (by simp), fun k hk => unit_mem hk⟩
    · exact single_ok (fun z hz => h z (List.mem_cons_of_mem _ hz)) x hx
theorem single_sum {n : Nat} : ∀ (l : List (Int × Int)) (i k : Nat), k < n → sumAt (singleP n i l) k = if i ≤ k then ((l[k - i]?).map (·.2)).getD 0 else 0
  | [], i, k, _ => by simp [singleP, sumAt]
  | y :: l, i, k, hk => by
    have ih := single_sum l (i + 1) k hk
    rw [sumAt] at ih ⊢
    rw [singleP, List.map_cons, List.sum_cons, ih, patAt]
    simp only
    rw [unit_at]
    by_cases h : i = k
    · subst h
      rw [if_pos ⟨rfl, hk⟩, if_neg (by omega), if_pos (Nat.le_refl _), Nat.sub_self]
      simp
    · rw [if_neg (fun e => h e.1)]
      by_cases h2 : i ≤ k
      · rw [if_pos (by omega), if_pos h2, show k - i = (k - (i + 1)) + 1 by omega, List.getElem?_cons_succ]
        omega
      · rw [if_neg (by omega), if_neg h2]
        omega
theorem yields_single {q : List (Int × Int)} (hc : ∀ y ∈ q, 1 ≤ y.2 ∧ y.2 ≤ 1000000) : yieldsP q (singleP q.length 0 q) := by
  refine yields_all (single_ok hc) fun i y hi => ?_
  rw [single_sum q 0 i (List.getElem?_eq_some_iff.1 hi).1, if_pos (Nat.zero_le _), Nat.sub_zero, hi]
  rfl
end Go.Proofs.Ytappnbebcjmlbaa
