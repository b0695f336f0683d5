/-
  No bars that satisfy a demand have less than its bound: plain laws.
  Conditions: none.
-/
import Derived.Test.YtigjoaejncfmdaaLb1
import Derived.Test.YtigjoaejncfmdaaB10
namespace Go.Proofs.Ytigjoaejncfmdaa
open Go Go.AM
set_option linter.unusedSimpArgs false
set_option linter.unusedVariables false
set_option maxRecDepth 100000

theorem need_at (y : Int) : ∀ (l : List (Int × Int)) (v : Int), atF v l y = l.foldl (fun v s => if s.1 ≤ y then s.2 else v) v
  | [], _ => rfl
  | s :: l, v => by rw [atF, List.foldl_cons]; exact need_at y l _
theorem need_eq (l : List (Int × Int)) (y : Int) : needAt l y = atF 0 l y := (need_at y l 0).symm
def pI (f t u : Int) : Nat → Int
  | 0 => 0
  | n + 1 => pI f t u n + (if f ≤ u + n ∧ u + n < t then 1 else 0)
def pJ (f t u : Int) : Nat → Int
  | 0 => 0
  | n + 1 => pJ f t u n + (if u + n = f ∧ f < t then 1 else 0)
theorem pI_eq (f t u : Int) : ∀ n : Nat, pI f t u n = max 0 (min t (u + n) - max f u)
  | 0 => by rw [pI]; omega
  | n + 1 => by
    rw [pI, pI_eq f t u n]
    split <;> omega
theorem pJ_eq (f t u : Int) : ∀ n : Nat, pJ f t u n = if u ≤ f ∧ f < u + n ∧ f < t then 1 else 0
  | 0 => by rw [pJ, if_neg (by omega)]
  | n + 1 => by
    rw [pJ, pJ_eq f t u n]
    by_cases h1 : u ≤ f ∧ f < u + n ∧ f < t
    · rw [if_pos h1, if_neg (by omega), if_pos (by omega)]; rfl
    · rw [if_neg h1]
      by_cases h2 : u + n = f ∧ f < t
      · rw [if_pos h2, if_pos (by omega)]; rfl
      · rw [if_neg h2, if_neg (by omega)]; rfl
theorem tot_snoc {a : Int} (ha : 0 ≤ a) (b : List (Int × Int)) (s : Int × Int) (x : Int) : tot a (serveAt (b ++ [s]) a) x ≤ tot a (serveAt b a) x + (if s.1 + a ≤ x ∧ x < s.2 - a then 1 else 0) + 2 * a * (if x = s.1 + a ∧ s.1 + a < s.2 - a then 1 else 0) := by
  unfold tot
  rw [serveAt_snoc, serveAt_snoc]
  generalize serveAt b a x = S1
  generalize serveAt b a (x - 1) = S2
  generalize hj : (if x = s.1 + a ∧ s.1 + a < s.2 - a then (1 : Int) else 0) = j
  have h1 : max 0 (S1 + (if s.1 + a ≤ x ∧ x < s.2 - a then (1 : Int) else 0) - (S2 + (if s.1 + a ≤ x - 1 ∧ x - 1 < s.2 - a then (1 : Int) else 0))) ≤ max 0 (S1 - S2) + j := by
    rw [← hj]
    repeat' split
    all_goals omega
  have h2 := Int.mul_le_mul_of_nonneg_left h1 (by omega : 0 ≤ 2 * a)
  rw [Int.mul_add] at h2
  omega
theorem segT_snoc {a : Int} (ha : 0 ≤ a) (b : List (Int × Int)) (s : Int × Int) (u : Int) : ∀ n : Nat, segT a (serveAt (b ++ [s]) a) u n ≤ segT a (serveAt b a) u n + pI (s.1 + a) (s.2 - a) u n + 2 * a * pJ (s.1 + a) (s.2 - a) u n
  | 0 => by simp [segT, pI, pJ]
  | n + 1 => by
    have h1 := segT_snoc ha b s u n
    have h2 := tot_snoc ha b s (u + n)
    rw [segT, segT, pI, pJ, Int.mul_add]
    omega
theorem segT_le {a : Int} (ha : 0 ≤ a) (u : Int) (n : Nat) : ∀ bars : List (Int × Int), (∀ s ∈ bars, barOk s) → segT a (serveAt bars a) u n ≤ spanS bars := by
  refine snocI (fun _ => ?_) ?_
  · have : ∀ n : Nat, segT a (serveAt [] a) u n = 0 := by
      intro n
      induction n with
      | zero => rfl
      | succ n ih => rw [segT, ih, tot]; simp [serveAt]
    rw [this]
    exact Int.le_refl _
  · intro b s ih h
    have h1 := ih fun x hx => h x (by simp [hx])
    have h2 := segT_snoc ha b s u n
    have h3 := h s (by simp)
    unfold barOk at h3
    rw [spanS_snoc]
    rw [pI_eq, pJ_eq] at h2
    by_cases hf : s.1 + a < s.2 - a
    · have h4 : (if u ≤ s.1 + a ∧ s.1 + a < u + n ∧ s.1 + a < s.2 - a then (1 : Int) else 0) ≤ 1 := by split <;> omega
      have h5 := Int.mul_le_mul_of_nonneg_left h4 (by omega : 0 ≤ 2 * a)
      omega
    · rw [if_neg (by omega), Int.mul_zero] at h2
      omega
theorem serveAt_low {a x : Int} : ∀ bars : List (Int × Int), (∀ s ∈ bars, x < s.1 + a) → serveAt bars a x = 0 := by
  refine snocI (fun _ => rfl) ?_
  intro b s ih h
  rw [serveAt_snoc, ih fun p hp => h p (by simp [hp]), if_neg (by have := h s (by simp); omega)]
  rfl
def levK (l : List (Int × Int)) (d : Int) (k : Nat) : List (Int × Int) := levGo ((k : Int) * areaOf d) l []
theorem boundN_sum (l : List (Int × Int)) (d a : Int) : ∀ n : Nat, boundN l d a n = sumK (fun k => 2 * a + bGo a none (levK l d k) 0) n
  | 0 => rfl
  | n + 1 => by
    rw [boundN, sumK, boundN_sum l d a n, boundK, bGo_add]
    show _ = sumK _ n + (2 * a + bGo a none (levGo ((n : Int) * areaOf d) l []) 0)
    omega
theorem lev_facts {l : List (Int × Int)} {d a : Int} (hg : givenE l d a = 0) (k : Nat) : Asc (levK l d k) ∧ (∀ s ∈ levK l d k, InR s) ∧ (∀ y, cov (levK l d k) y ↔ (k : Int) * areaOf d < needAt l y) ∧ ((k : Int) < leastN l d → levK l d k ≠ []) := by
  obtain ⟨hs1, hs2, hlast, hz, ha0, ha1, hA0, hA1⟩ := givenZ hg
  have e0 : (0 : Int) ≤ (k : Int) * areaOf d := Int.mul_nonneg (by omega) (by omega)
  refine ⟨spans_asc hs2 _, (spans_bd hs1 hs2 _).2, fun y => by rw [need_eq]; exact spans_cov e0 hs2 hlast, fun hk h => ?_⟩
  have h1 := (least_k (l := l) (d := d) (k := (k : Int) + 1) (by omega)).1 (by omega)
  rw [show (k : Int) + 1 - 1 = k by omega] at h1
  have h2 := (spans_some e0 hlast).2 h1
  have h3 : (levK l d k).length = 0 := by rw [h]; rfl
  rw [levK] at h3
  omega
theorem serve_k {l bars : List (Int × Int)} {d a x : Int} {k : Nat} (hA : 0 ≤ areaOf d) (hok : okAt l bars a (areaOf d) x) (h : (k : Int) * areaOf d < needAt l x) : (k : Int) + 1 ≤ serveAt bars a x := by
  unfold okAt at hok
  have := Int.lt_of_mul_lt_mul_right (Int.lt_of_lt_of_le h hok) hA
  omega
theorem bound_low {l bars : List (Int × Int)} {d a : Int} (hg : givenE l d a = 0) (hb : ∀ s ∈ bars, barOk s) (hok : ∀ x, okAt l bars a (areaOf d) x) (n : Nat) (hn : (n : Int) ≤ leastN l d) : boundN l d a n ≤ spanS bars := by
  obtain ⟨hs1, hs2, hlast, hz, ha0, ha1, hA0, hA1⟩ := givenZ hg
  obtain ⟨R0, hR0⟩ : ∃ R0 : Int, R0 = -3000000 := ⟨_, rfl⟩
  obtain ⟨R, hR⟩ : ∃ R : Int, R = 3000000 := ⟨_, rfl⟩
  have h1 := segT_le ha0 R0 (R - R0).toNat bars hb
  have h2 := cake ha0 (f := serveAt bars a) (fun x => (serveAt_nn a x bars).1) R0 n (R - R0).toNat
  have h3 : sumK (fun k => 2 * a + bGo a none (levK l d k) 0) n ≤ sumK (fun k => seg a (lv (serveAt bars a) k) R0 (R - R0).toNat) n := by
    refine sumK_le n fun k hk => ?_
    obtain ⟨f1, f2, f3, f4⟩ := lev_facts hg k
    refine spans_cost ha0 (f4 (by omega)) (fun s hs x hx1 hx2 => ?_) f1.2 (f1.1.imp fun h => by omega) ?_ (fun s hs => ?_) (fun s hs => ?_)
    · exact decide_eq_true (serve_k (by omega) (hok x) ((f3 x).1 ⟨s, hs, hx1, hx2⟩))
    · refine decide_eq_false ?_
      rw [serveAt_low bars fun s hs => by have := hb s hs; unfold barOk at this; omega]
      omega
    · have := f2 s hs; unfold InR at this; omega
    · have := f2 s hs; unfold InR at this; omega
  rw [boundN_sum]
  omega
theorem count_low {l bars : List (Int × Int)} {d a : Int} (hg : givenE l d a = 0) (hok : ∀ x, okAt l bars a (areaOf d) x) : leastN l d ≤ bars.length := by
  obtain ⟨hs1, hs2, hlast, hz, ha0, ha1, hA0, hA1⟩ := givenZ hg
  rcases Int.lt_or_le 0 (leastN l d) with h | h
  · obtain ⟨f1, f2, f3, f4⟩ := lev_facts hg (leastN l d - 1).toNat
    have hne := f4 (by omega)
    cases hl : levK l d (leastN l d - 1).toNat with
    | nil => exact absurd hl hne
    | cons s r =>
      have hs : s ∈ levK l d (leastN l d - 1).toNat := by rw [hl]; simp
      have h1 := serve_k (by omega) (hok s.1) ((f3 s.1).1 ⟨s, hs, Int.le_refl _, f1.2 s hs⟩)
      have h2 := (serveAt_nn a s.1 bars).2
      omega
  · omega
end Go.Proofs.Ytigjoaejncfmdaa
