/-
  What it costs to cover spans: plain laws.
  Conditions: none.
-/
import Derived.Test.YtigjoaejncfmdaaB14
namespace Go.Proofs.Ytigjoaejncfmdaa
open Go Go.AM
set_option linter.unusedSimpArgs false
set_option linter.unusedVariables false
set_option maxRecDepth 100000

/-! Points that are covered, and what they cost: 1 for each, 2a more where a run of them begins. -/
def cst (a : Int) (p q : Bool) : Int := if q = true then (if p = true then 1 else 1 + 2 * a) else 0
def seg (a : Int) (P : Int → Bool) (u : Int) : Nat → Int
  | 0 => 0
  | n + 1 => seg a P u n + cst a (P (u + n - 1)) (P (u + n))
theorem cst_nn {a : Int} (ha : 0 ≤ a) (p q : Bool) : 0 ≤ cst a p q := by
  unfold cst
  repeat' split
  all_goals omega
theorem cst_1 {a : Int} (ha : 0 ≤ a) (p : Bool) : 1 ≤ cst a p true := by
  unfold cst
  rw [if_pos rfl]
  split <;> omega
theorem cst_rise (a : Int) : cst a false true = 1 + 2 * a := rfl
theorem seg_add (a : Int) (P : Int → Bool) (u : Int) (m : Nat) : ∀ n : Nat, seg a P u (m + n) = seg a P u m + seg a P (u + m) n
  | 0 => by simp [seg]
  | n + 1 => by
    have e : u + ((m + n : Nat) : Int) = u + m + n := by omega
    rw [← Nat.add_assoc, seg, seg_add a P u m n, seg, e]
    omega
theorem seg_nn {a : Int} (ha : 0 ≤ a) (P : Int → Bool) (u : Int) : ∀ n : Nat, 0 ≤ seg a P u n
  | 0 => by simp [seg]
  | n + 1 => by
    have h1 := seg_nn ha P u n
    have h2 := cst_nn ha (P (u + n - 1)) (P (u + n))
    rw [seg]; omega
theorem seg_one (a : Int) (P : Int → Bool) (u : Int) : seg a P u 1 = cst a (P (u - 1)) (P u) := by simp [seg]
theorem seg_all {a : Int} (ha : 0 ≤ a) (P : Int → Bool) (u : Int) : ∀ n : Nat, (∀ i : Nat, i < n → P (u + i) = true) → (n : Int) ≤ seg a P u n
  | 0, _ => by simp [seg]
  | n + 1, h => by
    have h1 := seg_all ha P u n fun i hi => h i (by omega)
    have h2 := cst_1 ha (P (u + n - 1))
    rw [seg, h n (by omega)]
    omega
theorem seg_mono {a : Int} (ha : 0 ≤ a) (P : Int → Bool) (u : Int) {m n : Nat} (h : m ≤ n) : seg a P u m ≤ seg a P u n := by
  have h1 := seg_add a P u m (n - m)
  have h2 := seg_nn ha P (u + m) (n - m)
  rw [show m + (n - m) = n by omega] at h1
  omega
theorem seg_rise {a : Int} (ha : 0 ≤ a) (P : Int → Bool) : ∀ (n : Nat) (y : Int), P y = false → P (y + 1 + n) = true → 1 + 2 * a ≤ seg a P (y + 1) (n + 1)
  | 0, y, h0, h1 => by
    rw [seg_one, show y + 1 - 1 = y by omega, h0]
    rw [show y + 1 + ((0 : Nat) : Int) = y + 1 by omega] at h1
    rw [h1, cst_rise]
    omega
  | n + 1, y, h0, h1 => by
    rw [show n + 1 + 1 = 1 + (n + 1) by omega, seg_add, seg_one, show y + 1 - 1 = y by omega, h0, show y + 1 + ((1 : Nat) : Int) = y + 1 + 1 by omega]
    cases hp : P (y + 1) with
    | true =>
      have h2 := seg_nn ha P (y + 1 + 1) (n + 1)
      rw [cst_rise]
      omega
    | false =>
      have h2 := seg_rise ha P n (y + 1) hp (by rw [show y + 1 + 1 + (n : Int) = y + 1 + ((n + 1 : Nat) : Int) by omega]; exact h1)
      have h3 := cst_nn ha false false
      omega
theorem seg_gap {a : Int} (ha : 0 ≤ a) (P : Int → Bool) (u : Int) (g : Nat) (h : P (u + g) = true) : min (g : Int) (2 * a) + 1 ≤ seg a P u (g + 1) := by
  by_cases hall : ∀ i : Nat, i < g → P (u + i) = true
  · have := seg_all ha P u (g + 1) fun i hi => by
      by_cases e : i = g
      · rw [e]; exact h
      · exact hall i (by omega)
    omega
  · have ⟨i, hi⟩ : ∃ i : Nat, ¬ (i < g → P (u + i) = true) := Classical.not_forall.1 hall
    have hig : i < g := Classical.byContradiction fun hn => hi fun hl => absurd hl hn
    have hif : P (u + i) = false := by
      cases hp : P (u + i) with
      | false => rfl
      | true => exact absurd (fun _ => hp) hi
    have h1 := seg_rise ha P (g - i - 1) (u + i) hif (by rw [show u + (i : Int) + 1 + ((g - i - 1 : Nat) : Int) = u + g by omega]; exact h)
    have h2 := seg_add a P u (i + 1) (g - i)
    have h3 := seg_nn ha P u (i + 1)
    rw [show i + 1 + (g - i) = g + 1 by omega, show u + ((i + 1 : Nat) : Int) = u + i + 1 by omega] at h2
    rw [show g - i - 1 + 1 = g - i by omega] at h1
    omega
/-! Spans that are covered. -/
theorem bGo_add (a : Int) : ∀ (l : List (Int × Int)) (p : Option (Int × Int)) (s : Int), bGo a p l s = s + bGo a p l 0
  | [], p, s => by cases p <;> simp [bGo]
  | x :: l, none, s => by
    rw [bGo, bGo, bGo_add a l (some x) (s + (x.2 - x.1)), bGo_add a l (some x) (0 + (x.2 - x.1))]
    omega
  | x :: l, some q, s => by
    rw [bGo, bGo, bGo_add a l (some x) (s + (x.2 - x.1) + min (x.1 - q.2) (2 * a)), bGo_add a l (some x) (0 + (x.2 - x.1) + min (x.1 - q.2) (2 * a))]
    omega
def Covers (P : Int → Bool) (l : List (Int × Int)) : Prop := ∀ s ∈ l, ∀ x, s.1 ≤ x → x < s.2 → P x = true
theorem span_cost {a : Int} (ha : 0 ≤ a) {P : Int → Bool} {s : Int × Int} (hs : s.1 < s.2) (hc : ∀ x, s.1 ≤ x → x < s.2 → P x = true) : s.2 - s.1 - 1 ≤ seg a P (s.1 + 1) (s.2 - s.1 - 1).toNat := by
  have := seg_all ha P (s.1 + 1) (s.2 - s.1 - 1).toNat fun i hi => hc _ (by omega) (by omega)
  omega
theorem tail_cost {a : Int} (ha : 0 ≤ a) {P : Int → Bool} {R : Int} : ∀ (l : List (Int × Int)) (p : Int × Int), Covers P l → (∀ s ∈ l, s.1 < s.2) → (∀ s ∈ l, p.2 ≤ s.1) → l.Pairwise (fun x y => x.2 ≤ y.1) → p.2 ≤ R → (∀ s ∈ l, s.2 ≤ R) →
    ∃ n : Nat, bGo a (some p) l 0 ≤ seg a P p.2 n ∧ p.2 + n ≤ R
  | [], p, _, _, _, _, hR, _ => ⟨0, by simp [bGo, seg], by omega⟩
  | s :: l, p, hc, hs, hp, hw, hR, hR2 => by
    rw [List.pairwise_cons] at hw
    have hs0 := hs s (by simp)
    have hp0 := hp s (by simp)
    obtain ⟨n, h1, h2⟩ := tail_cost ha l s (fun x hx => hc x (by simp [hx])) (fun x hx => hs x (by simp [hx])) hw.1 hw.2 (hR2 s (by simp)) (fun x hx => hR2 x (by simp [hx]))
    have hcs := hc s (by simp)
    have hg := seg_gap ha P p.2 (s.1 - p.2).toNat (by rw [show p.2 + ((s.1 - p.2).toNat : Int) = s.1 by omega]; exact hcs s.1 (Int.le_refl _) hs0)
    have hsp := span_cost ha hs0 hcs
    have e1 := seg_add a P p.2 ((s.1 - p.2).toNat + 1) ((s.2 - s.1 - 1).toNat)
    rw [show p.2 + (((s.1 - p.2).toNat + 1 : Nat) : Int) = s.1 + 1 by omega] at e1
    have e2 := seg_add a P p.2 ((s.1 - p.2).toNat + 1 + (s.2 - s.1 - 1).toNat) n
    rw [show p.2 + (((s.1 - p.2).toNat + 1 + (s.2 - s.1 - 1).toNat : Nat) : Int) = s.2 by omega] at e2
    refine ⟨(s.1 - p.2).toNat + 1 + (s.2 - s.1 - 1).toNat + n, ?_, by omega⟩
    rw [bGo, bGo_add, e2, e1]
    omega
theorem spans_cost {a : Int} (ha : 0 ≤ a) {P : Int → Bool} {R0 R : Int} {l : List (Int × Int)} (hne : l ≠ []) (hc : Covers P l) (hs : ∀ s ∈ l, s.1 < s.2) (hw : l.Pairwise (fun x y => x.2 ≤ y.1)) (h0 : P (R0 - 1) = false) (hlo : ∀ s ∈ l, R0 ≤ s.1) (hhi : ∀ s ∈ l, s.2 ≤ R) :
    2 * a + bGo a none l 0 ≤ seg a P R0 (R - R0).toNat := by
  cases l with
  | nil => exact absurd rfl hne
  | cons s l =>
    rw [List.pairwise_cons] at hw
    have hs0 := hs s (by simp)
    have hcs := hc s (by simp)
    have hl0 := hlo s (by simp)
    obtain ⟨n, h1, h2⟩ := tail_cost ha l s (fun x hx => hc x (by simp [hx])) (fun x hx => hs x (by simp [hx])) hw.1 hw.2 (hhi s (by simp)) (fun x hx => hhi x (by simp [hx]))
    have hr := seg_rise ha P (s.1 - R0).toNat (R0 - 1) h0 (by rw [show R0 - 1 + 1 + ((s.1 - R0).toNat : Int) = s.1 by omega]; exact hcs s.1 (Int.le_refl _) hs0)
    rw [show R0 - 1 + 1 = R0 by omega] at hr
    have hsp := span_cost ha hs0 hcs
    have e1 := seg_add a P R0 ((s.1 - R0).toNat + 1) ((s.2 - s.1 - 1).toNat)
    rw [show R0 + (((s.1 - R0).toNat + 1 : Nat) : Int) = s.1 + 1 by omega] at e1
    have e2 := seg_add a P R0 ((s.1 - R0).toNat + 1 + (s.2 - s.1 - 1).toNat) n
    rw [show R0 + (((s.1 - R0).toNat + 1 + (s.2 - s.1 - 1).toNat : Nat) : Int) = s.2 by omega] at e2
    have hm := seg_mono ha P R0 (m := (s.1 - R0).toNat + 1 + (s.2 - s.1 - 1).toNat + n) (n := (R - R0).toNat) (by omega)
    rw [bGo, bGo_add]
    omega
/-! The levels of a number of bars, counted together. -/
def sumK (f : Nat → Int) : Nat → Int
  | 0 => 0
  | n + 1 => sumK f n + f n
theorem sumK_add (f g : Nat → Int) : ∀ n, sumK (fun k => f k + g k) n = sumK f n + sumK g n
  | 0 => rfl
  | n + 1 => by rw [sumK, sumK_add f g n, sumK, sumK]; omega
theorem sumK_le {f g : Nat → Int} : ∀ n, (∀ k, k < n → f k ≤ g k) → sumK f n ≤ sumK g n
  | 0, _ => Int.le_refl _
  | n + 1, h => by
    have h1 := sumK_le n fun k hk => h k (by omega)
    have h2 := h n (by omega)
    rw [sumK, sumK]; omega
theorem sumK_0 : ∀ n, sumK (fun _ => 0) n = 0
  | 0 => rfl
  | n + 1 => by rw [sumK, sumK_0 n]; rfl
def lv (f : Int → Int) (k : Nat) (x : Int) : Bool := decide ((k : Int) + 1 ≤ f x)
theorem layer {a : Int} {s s' : Int} (hs : 0 ≤ s) (hs' : 0 ≤ s') : ∀ n : Nat, sumK (fun k => cst a (decide ((k : Int) + 1 ≤ s')) (decide ((k : Int) + 1 ≤ s))) n = min (n : Int) s + 2 * a * max 0 (min (n : Int) s - min (n : Int) s')
  | 0 => by
    rw [sumK, show min ((0 : Nat) : Int) s = 0 by omega, show min ((0 : Nat) : Int) s' = 0 by omega]
    simp
  | n + 1 => by
    rw [sumK, layer hs hs' n]
    by_cases h1 : (n : Int) + 1 ≤ s
    · by_cases h2 : (n : Int) + 1 ≤ s'
      · rw [decide_eq_true h1, decide_eq_true h2, show min ((n + 1 : Nat) : Int) s = min (n : Int) s + 1 by omega, show min ((n + 1 : Nat) : Int) s' = min (n : Int) s' + 1 by omega, show min (n : Int) s + 1 - (min (n : Int) s' + 1) = min (n : Int) s - min (n : Int) s' by omega, show cst a true true = 1 from rfl]
        omega
      · rw [decide_eq_true h1, decide_eq_false h2, show min ((n + 1 : Nat) : Int) s = min (n : Int) s + 1 by omega, show min ((n + 1 : Nat) : Int) s' = min (n : Int) s' by omega, cst_rise]
        rw [show max 0 (min (n : Int) s + 1 - min (n : Int) s') = max 0 (min (n : Int) s - min (n : Int) s') + 1 by omega, Int.mul_add]
        omega
    · rw [decide_eq_false h1, show min ((n + 1 : Nat) : Int) s = min (n : Int) s by omega, show ∀ p, cst a p false = 0 from fun _ => rfl]
      rw [show max 0 (min (n : Int) s - min ((n + 1 : Nat) : Int) s') = max 0 (min (n : Int) s - min (n : Int) s') by omega]
      omega
def tot (a : Int) (f : Int → Int) (x : Int) : Int := f x + 2 * a * max 0 (f x - f (x - 1))
def segT (a : Int) (f : Int → Int) (u : Int) : Nat → Int
  | 0 => 0
  | n + 1 => segT a f u n + tot a f (u + n)
theorem layer_le {a : Int} (ha : 0 ≤ a) {s s' : Int} (hs : 0 ≤ s) (hs' : 0 ≤ s') (n : Nat) : sumK (fun k => cst a (decide ((k : Int) + 1 ≤ s')) (decide ((k : Int) + 1 ≤ s))) n ≤ s + 2 * a * max 0 (s - s') := by
  rw [layer hs hs' n]
  have h1 : max 0 (min (n : Int) s - min (n : Int) s') ≤ max 0 (s - s') := by omega
  have h2 := Int.mul_le_mul_of_nonneg_left h1 (by omega : 0 ≤ 2 * a)
  omega
theorem cake {a : Int} (ha : 0 ≤ a) {f : Int → Int} (hf : ∀ x, 0 ≤ f x) (u : Int) (n : Nat) : ∀ N : Nat, sumK (fun k => seg a (lv f k) u N) n ≤ segT a f u N
  | 0 => by
    rw [show (fun k => seg a (lv f k) u 0) = fun _ => (0 : Int) from rfl, sumK_0, segT]
    exact Int.le_refl _
  | N + 1 => by
    have h1 := cake ha hf u n N
    have h2 := layer_le ha (hf (u + N)) (hf (u + N - 1)) n
    rw [show (fun k => seg a (lv f k) u (N + 1)) = fun k => seg a (lv f k) u N + cst a (lv f k (u + N - 1)) (lv f k (u + N)) from rfl, sumK_add, segT, tot]
    have e : (fun k : Nat => cst a (lv f k (u + N - 1)) (lv f k (u + N))) = fun k : Nat => cst a (decide ((k : Int) + 1 ≤ f (u + N - 1))) (decide ((k : Int) + 1 ≤ f (u + N))) := rfl
    rw [e]
    omega
end Go.Proofs.Ytigjoaejncfmdaa
