/-
  What it costs to cover spans: plain laws.
  Conditions: none.
-/
import Derived.Test.YtigjoaejncfmdaaB14
import Derived.Test.YtigjoaejncfmdaaB10
namespace Go.Proofs.Ytigjoaejncfmdaa
open Go Go.AM
set_option linter.unusedSimpArgs false
set_option linter.unusedVariables false
set_option maxRecDepth 100000

/-! Points that are covered, and what they cost: 1 for each, 2a more where a run of them begins. -/
def cst (a : Int) (p q : Bool) : Int := if q = true then (if p = true then 1 else 1 + 2 * a) else 0
def seg (a : Int) (P : Int → Bool) (u : Int) : Nat → Int
  | 0 => 0
  | n + 1 => seg a P u n + cst a (P (u + n - 1)) (P (u + n))
theorem cst_nn {a : Int} (ha : 0 ≤ a) (p q : Bool) : 0 ≤ cst a p q := by
  unfold cst
  repeat' split
  all_goals omega
theorem cst_1 {a : Int} (ha : 0 ≤ a) (p : Bool) : 1 ≤ cst a p true := by
  unfold cst
  rw [if_pos rfl]
  split <;> omega
theorem cst_rise (a : Int) : cst a false true = 1 + 2 * a := rfl
theorem seg_add (a : Int) (P : Int → Bool) (u : Int) (m : Nat) : ∀ n : Nat, seg a P u (m + n) = seg a P u m + seg a P (u + m) n
  | 0 => by simp [seg]
  | n + 1 => by
    have e : u + ((m + n : Nat) : Int) = u + m + n := by omega
    rw [← Nat.add_assoc, seg, seg_add a P u m n, seg, e]
    omega
theorem seg_nn {a : Int} (ha : 0 ≤ a) (P : Int → Bool) (u : Int) : ∀ n : Nat, 0 ≤ seg a P u n
  | 0 => by simp [seg]
  | n + 1 => by
    have h1 := seg_nn ha P u n
    have h2 := cst_nn ha (P (u + n - 1)) (P (u + n))
    rw [seg]; omega
theorem seg_one (a : Int) (P : Int → Bool) (u : Int) : seg a P u 1 = cst a (P (u - 1)) (P u) := by simp [seg]
theorem seg_all {a : Int} (ha : 0 ≤ a) (P : Int → Bool) (u : Int) : ∀ n : Nat, (∀ i : Nat, i < n → P (u + i) = true) → (n : Int) ≤ seg a P u n
  | 0, _ => by simp [seg]
  | n + 1, h => by
    have h1 := seg_all ha P u n fun i hi => h i (by omega)
    have h2 := cst_1 ha (P (u + n - 1))
    rw [seg, h n (by omega)]
    omega
theorem seg_mono {a : Int} (ha : 0 ≤ a) (P : Int → Bool) (u : Int) {m n : Nat} (h : m ≤ n) : seg a P u m ≤ seg a P u n := by
  have h1 := seg_add a P u m (n - m)
  have h2 := seg_nn ha P (u + m) (n - m)
  rw [show m + (n - m) = n by omega] at h1
  omega
theorem seg_rise {a : Int} (ha : 0 ≤ a) (P : Int → Bool) : ∀ (n : Nat) (y : Int), P y = false → P (y + 1 + n) = true → 1 + 2 * a ≤ seg a P (y + 1) (n + 1)
  | 0, y, h0, h1 => by
    rw [seg_one, show y + 1 - 1 = y by omega, h0]
    rw [show y + 1 + ((0 : Nat) : Int) = y + 1 by omega] at h1
    rw [h1, cst_rise]
    omega
  | n + 1, y, h0, h1 => by
    rw [show n + 1 + 1 = 1 + (n + 1) by omega, seg_add, seg_one, show y + 1 - 1 = y by omega, h0, show y + 1 + ((1 : Nat) : Int) = y + 1 + 1 by omega]
    cases hp : P (y + 1) with
    | true =>
      have h2 := seg_nn ha P (y + 1 + 1) (n + 1)
      rw [cst_rise]
      omega
    | false =>
      have h2 := seg_rise ha P n (y + 1) hp (by rw [show y + 1 + 1 + (n : Int) = y + 1 + ((n + 1 : Nat) : Int) by omega]; exact h1)
      have h3 := cst_nn ha false false
      omega
theorem seg_gap {a : Int} (ha : 0 ≤ a) (P : Int → Bool) (u : Int) (g : Nat) (h : P (u + g) = true) : min (g : Int) (2 * a) + 1 ≤ seg a P u (g + 1) := by
  by_cases hall : ∀ i : Nat, i < g → P (u + i) = true
  · have := seg_all ha P u (g + 1) fun i hi => by
      by_cases e : i = g
      · rw [e]; exact h
      · exact hall i (by omega)
    omega
  · have ⟨i, hi⟩ : ∃ i : Nat, ¬ (i < g → P (u + i) = true) := Classical.not_forall.1 hall
    have hig : i < g := Classical.byContradiction fun hn => hi fun hl => absurd hl hn
    have hif : P (u + i) = false := by
      cases hp : P (u + i) with
      | false => rfl
      | true => exact absurd (fun _ => hp) hi
    have h1 := seg_rise ha P (g - i - 1) (u + i) hif (by rw [show u + (i : Int) + 1 + ((g - i - 1 : Nat) : Int) = u + g by omega]; exact h)
    have h2 := seg_add a P u (i + 1) (g - i)
    have h3 := seg_nn ha P u (i + 1)
    rw [show i + 1 + (g - i) = g + 1 by omega, show u + ((i + 1 : Nat) : Int) = u + i + 1 by omega] at h2
    rw [show g - i - 1 + 1 = g - i by omega] at h1
    omega
/-! Spans that are covered. -/
theorem bGo_add (a : Int) : ∀ (l : List (Int × Int)) (p : Option (Int × Int)) (s : Int), bGo a p l s = s + bGo a p l 0
  | [], p, s => by cases p <;> simp [bGo]
  | x :: l, none, s => by
    rw [bGo, bGo, bGo_add a l (some x) (s + (x.2 - x.1)), bGo_add a l (some x) (0 + (x.2 - x.1))]
    omega
  | x :: l, some q, s => by
    rw [bGo, bGo, bGo_add a l (some x) (s + (x.2 - x.1) + min (x.1 - q.2) (2 * a)), bGo_add a l (some x) (0 + (x.2 - x.1) + min (x.1 - q.2) (2 * a))]
    omega
def Covers (P : Int → Bool) (l : List (Int × Int)) : Prop := ∀ s ∈ l, ∀ x, s.1 ≤ x → x < s.2 → P x = true
theorem span_cost {a : Int} (ha : 0 ≤ a) {P : Int → Bool} {s : Int × Int} (hs : s.1 < s.2) (hc : ∀ x, s.1 ≤ x → x < s.2 → P x = true) : s.2 - s.1 - 1 ≤ seg a P (s.1 + 1) (s.2 - s.1 - 1).toNat := by
  have := seg_all ha P (s.1 + 1) (s.2 - s.1 - 1).toNat fun i hi => hc _ (by omega) (by omega)
  omega
theorem tail_cost {a : Int} (ha : 0 ≤ a) {P : Int → Bool} {R : Int} : ∀ (l : List (Int × Int)) (p : Int × Int), Covers P l → (∀ s ∈ l, s.1 < s.2) → (∀ s ∈ l, p.2 ≤ s.1) → l.Pairwise (fun x y => x.2 ≤ y.1) → p.2 ≤ R → (∀ s ∈ l, s.2 ≤ R) →
    ∃ n : Nat, bGo a (some p) l 0 ≤ seg a P p.2 n ∧ p.2 + n ≤ R
  | [], p, _, _, _, _, hR, _ => ⟨0, by simp [bGo, seg], by omega⟩
  | s :: l, p, hc, hs, hp, hw, hR, hR2 => by
    rw [List.pairwise_cons] at hw
    have hs0 := hs s (by simp)
    have hp0 := hp s (by simp)
    obtain ⟨n, h1, h2⟩ := tail_cost ha l s (fun x hx => hc x (by simp [hx])) (fun x hx => hs x (by simp [hx])) hw.1 hw.2 (hR2 s (by simp)) (fun x hx => hR2 x (by simp [hx]))
    have hcs := hc s (by simp)
    have hg := seg_gap ha P p.2 (s.1 - p.2).toNat (by rw [show p.2 + ((s.1 - p.2).toNat : Int) = s.1 by omega]; exact hcs s.1 (Int.le_refl _) hs0)
    have hsp := span_cost ha hs0 hcs
    have e1 := seg_add a P p.2 ((s.1 - p.2).toNat + 1) ((s.2 - s.1 - 1).toNat)
    rw [show p.2 + (((s.1 - p.2).toNat + 1 : Nat) : Int) = s.1 + 1 by omega] at e1
    have e2 := seg_add a P p.2 ((s.1 - p.2).toNat + 1 + (s.2 - s.1 - 1).toNat) n
    rw [show p.2 + (((s.1 - p.2).toNat + 1 + (s.2 - s.1 - 1).toNat : Nat) : Int) = s.2 by omega] at e2
    refine ⟨(s.1 - p.2).toNat + 1 + (s.2 - s.1 - 1).toNat + n, ?_, by omega⟩
    rw [bGo, bGo_add, e2, e1]
    omega
theorem spans_cost {a : Int} (ha : 0 ≤ a) {P : Int → Bool} {R0 R : Int} {l : List (Int × Int)} (hne : l ≠ []) (hc : Covers P l) (hs : ∀ s ∈ l, s.1 < s.2) (hw : l.Pairwise (fun x y => x.2 ≤ y.1)) (h0 : P (R0 - 1) = false) (hlo : ∀ s ∈ l, R0 ≤ s.1) (hhi : ∀ s ∈ l, s.2 ≤ R) :
    2 * a + bGo a none l 0 ≤ seg a P R0 (R - R0).toNat := by
  cases l with
  | nil => exact absurd rfl hne
  | cons s l =>
    rw [List.pairwise_cons] at hw
    have hs0 := hs s (by simp)
    have hcs := hc s (by simp)
    have hl0 := hlo s (by simp)
    obtain ⟨n, h1, h2⟩ := tail_cost ha l s (fun x hx => hc x (by simp [hx])) (fun x hx => hs x (by simp [hx])) hw.1 hw.2 (hhi s (by simp)) (fun x hx => hhi x (by simp [hx]))
    have hr := seg_rise ha P (s.1 - R0).toNat (R0 - 1) h0 (by rw [show R0 - 1 + 1 + ((s.1 - R0).toNat : Int) = s.1 by omega]; exact hcs s.1 (Int.le_refl _) hs0)
    rw [show R0 - 1 + 1 = R0 by omega] at hr
    have hsp := span_cost ha hs0 hcs
    have e1 := seg_add a P R0 ((s.1 - R0).toNat + 1) ((s.2 - s.1 - 1).toNat)
    rw [show R0 + (((s.1 - R0).toNat + 1 : Nat) : Int) = s.1 + 1 by omega] at e1
    have e2 := seg_add a P R0 ((s.1 - R0).toNat + 1 + (s.2 - s.1 - 1).toNat) n
    rw [show R0 + (((s.1 - R0).toNat + 1 + (s.2 - s.1 - 1).toNat : Nat) : Int) = s.2 by omega] at e2
    have hm := seg_mono ha P R0 (m := (s.1 - R0).toNat + 1 + (s.2 - s.1 - 1).toNat + n) (n := (R - R0).toNat) (by omega)
    rw [bGo, bGo_add]
    omega
/-! The levels of a number of bars, counted together. -/
def sumK (f : Nat → Int) : Nat → Int
  | 0 => 0
  | n + 1 => sumK f n + f n
theorem sumK_add (f g : Nat → Int) : ∀ n, sumK (fun k => f k + g k) n = sumK f n + sumK g n
  | 0 => rfl
  | n + 1 => by rw [sumK, sumK_add f g n, sumK, sumK]; omega
theorem sumK_le {f g : Nat → Int} : ∀ n, (∀ k, k < n → f k ≤ g k) → sumK f n ≤ sumK g n
  | 0, _ => Int.le_refl _
  | n + 1, h => by
    have h1 := sumK_le n fun k hk => h k (by omega)
    have h2 := h n (by omega)
    rw [sumK, sumK]; omega
theorem sumK_0 : ∀ n, sumK (fun _ => 0) n = 0
  | 0 => rfl
  | n + 1 => by rw [sumK, sumK_0 n]; rfl
def lv (f : Int → Int) (k : Nat) (x : Int) : Bool := decide ((k : Int) + 1 ≤ f x)
theorem layer {a : Int} {s s' : Int} (hs : 0 ≤ s) (hs' : 0 ≤ s') : ∀ n : Nat, sumK (fun k => cst a (decide ((k : Int) + 1 ≤ s')) (decide ((k : Int) + 1 ≤ s))) n = min (n : Int) s + 2 * a * max 0 (min (n : Int) s - min (n : Int) s')
  | 0 => by
    rw [sumK, show min ((0 : Nat) : Int) s = 0 by omega, show min ((0 : Nat) : Int) s' = 0 by omega]
    simp
  | n + 1 => by
    rw [sumK, layer hs hs' n]
    by_cases h1 : (n : Int) + 1 ≤ s
    · by_cases h2 : (n : Int) + 1 ≤ s'
      · rw [decide_eq_true h1, decide_eq_true h2, show min ((n + 1 : Nat) : Int) s = min (n : Int) s + 1 by omega, show min ((n + 1 : Nat) : Int) s' = min (n : Int) s' + 1 by omega, show min (n : Int) s + 1 - (min (n : Int) s' + 1) = min (n : Int) s - min (n : Int) s' by omega, show cst a true true = 1 from rfl]
        omega
      · rw [decide_eq_true h1, decide_eq_false h2, show min ((n + 1 : Nat) : Int) s = min (n : Int) s + 1 by omega, show min ((n + 1 : Nat) : Int) s' = min (n : Int) s' by omega, cst_rise]
        rw [show max 0 (min (n : Int) s + 1 - min (n : Int) s') = max 0 (min (n : Int) s - min (n : Int) s') + 1 by omega, Int.mul_add]
        omega
    · rw [decide_eq_false h1, show min ((n + 1 : Nat) : Int) s = min (n : Int) s by omega, show ∀ p, cst a p false = 0 from fun _ => rfl]
      rw [show max 0 (min (n : Int) s - min ((n + 1 : Nat) : Int) s') = max 0 (min (n : Int) s - min (n : Int) s') by omega]
      omega
def tot (a : Int) (f : Int → Int) (x : Int) : Int := f x + 2 * a * max 0 (f x - f (x - 1))
def segT (a : Int) (f : Int → Int) (u : Int) : Nat → Int
  | 0 => 0
  | n + 1 => segT a f u n + tot a f (u + n)
theorem layer_le {a : Int} (ha : 0 ≤ a) {s s' : Int} (hs : 0 ≤ s) (hs' : 0 ≤ s') (n : Nat) : sumK (fun k => cst a (decide ((k : Int) + 1 ≤ s')) (decide ((k : Int) + 1 ≤ s))) n ≤ s + 2 * a * max 0 (s - s') := by
  rw [layer hs hs' n]
  have h1 : max 0 (min (n : Int) s - min (n : Int) s') ≤ max 0 (s - s') := by omega
  have h2 := Int.mul_le_mul_of_nonneg_left h1 (by omega : 0 ≤ 2 * a)
  omega
theorem cake {a : Int} (ha : 0 ≤ a) {f : Int → Int} (hf : ∀ x, 0 ≤ f x) (u : Int) (n : Nat) : ∀ N : Nat, sumK (fun k => seg a (lv f k) u N) n ≤ segT a f u N
  | 0 => by
    rw [show (fun k => seg a (lv f k) u 0) = fun _ => (0 : Int) from rfl, sumK_0, segT]
    exact Int.le_refl _
  | N + 1 => by
    have h1 := cake ha hf u n N
    have h2 := layer_le ha (hf (u + N)) (hf (u + N - 1)) n
    rw [show (fun k => seg a (lv f k) u (N + 1)) = fun k => seg a (lv f k) u N + cst a (lv f k (u + N - 1)) (lv f k (u + N)) from rfl, sumK_add, segT, tot]
    have e : (fun k : Nat => cst a (lv f k (u + N - 1)) (lv f k (u + N))) = fun k : Nat => cst a (decide ((k : Int) + 1 ≤ f (u + N - 1))) (decide ((k : Int) + 1 ≤ f (u + N))) := rfl
    rw [e]
    omega
end Go.Proofs.Ytigjoaejncfmdaa
namespace Go.Proofs.Ytigjoaejncfmdaa
open Go Go.AM
set_option linter.unusedSimpArgs false
set_option linter.unusedVariables false
set_option maxRecDepth 100000

theorem need_at (y : Int) : ∀ (l : List (Int × Int)) (v : Int), atF v l y = l.foldl (fun v s => if s.1 ≤ y then s.2 else v) v
  | [], _ => rfl
  | s :: l, v => by rw [atF, List.foldl_cons]; exact need_at y l _
theorem need_eq (l : List (Int × Int)) (y : Int) : needAt l y = atF 0 l y := (need_at y l 0).symm
def pI (f t u : Int) : Nat → Int
  | 0 => 0
  | n + 1 => pI f t u n + (if f ≤ u + n ∧ u + n < t then 1 else 0)
def pJ (f t u : Int) : Nat → Int
  | 0 => 0
  | n + 1 => pJ f t u n + (if u + n = f ∧ f < t then 1 else 0)
theorem pI_eq (f t u : Int) : ∀ n : Nat, pI f t u n = max 0 (min t (u + n) - max f u)
  | 0 => by rw [pI]; omega
  | n + 1 => by
    rw [pI, pI_eq f t u n]
    split <;> omega
theorem pJ_eq (f t u : Int) : ∀ n : Nat, pJ f t u n = if u ≤ f ∧ f < u + n ∧ f < t then 1 else 0
  | 0 => by rw [pJ, if_neg (by omega)]
  | n + 1 => by
    rw [pJ, pJ_eq f t u n]
    by_cases h1 : u ≤ f ∧ f < u + n ∧ f < t
    · rw [if_pos h1, if_neg (by omega), if_pos (by omega)]; rfl
    · rw [if_neg h1]
      by_cases h2 : u + n = f ∧ f < t
      · rw [if_pos h2, if_pos (by omega)]; rfl
      · rw [if_neg h2, if_neg (by omega)]; rfl
theorem tot_snoc {a : Int} (ha : 0 ≤ a) (b : List (Int × Int)) (s : Int × Int) (x : Int) : tot a (serveAt (b ++ [s]) a) x ≤ tot a (serveAt b a) x + (if s.1 + a ≤ x ∧ x < s.2 - a then 1 else 0) + 2 * a * (if x = s.1 + a ∧ s.1 + a < s.2 - a then 1 else 0) := by
  unfold tot
  rw [serveAt_snoc, serveAt_snoc]
  generalize serveAt b a x = S1
  generalize serveAt b a (x - 1) = S2
  generalize hj : (if x = s.1 + a ∧ s.1 + a < s.2 - a then (1 : Int) else 0) = j
  have h1 : max 0 (S1 + (if s.1 + a ≤ x ∧ x < s.2 - a then (1 : Int) else 0) - (S2 + (if s.1 + a ≤ x - 1 ∧ x - 1 < s.2 - a then (1 : Int) else 0))) ≤ max 0 (S1 - S2) + j := by
    rw [← hj]
    repeat' split
    all_goals omega
  have h2 := Int.mul_le_mul_of_nonneg_left h1 (by omega : 0 ≤ 2 * a)
  rw [Int.mul_add] at h2
  omega
theorem segT_snoc {a : Int} (ha : 0 ≤ a) (b : List (Int × Int)) (s : Int × Int) (u : Int) : ∀ n : Nat, segT a (serveAt (b ++ [s]) a) u n ≤ segT a (serveAt b a) u n + pI (s.1 + a) (s.2 - a) u n + 2 * a * pJ (s.1 + a) (s.2 - a) u n
  | 0 => by simp [segT, pI, pJ]
  | n + 1 => by
    have h1 := segT_snoc ha b s u n
    have h2 := tot_snoc ha b s (u + n)
    rw [segT, segT, pI, pJ, Int.mul_add]
    omega
theorem segT_le {a : Int} (ha : 0 ≤ a) (u : Int) (n : Nat) : ∀ bars : List (Int × Int), (∀ s ∈ bars, barOk s) → segT a (serveAt bars a) u n ≤ spanS bars := by
  refine snocI (fun _ => ?_) ?_
  · have : ∀ n : Nat, segT a (serveAt [] a) u n = 0 := by
      intro n
      induction n with
      | zero => rfl
      | succ n ih => rw [segT, ih, tot]; simp [serveAt]
    rw [this]
    exact Int.le_refl _
  · intro b s ih h
    have h1 := ih fun x hx => h x (by simp [hx])
    have h2 := segT_snoc ha b s u n
    have h3 := h s (by simp)
    unfold barOk at h3
    rw [spanS_snoc]
    rw [pI_eq, pJ_eq] at h2
    by_cases hf : s.1 + a < s.2 - a
    · have h4 : (if u ≤ s.1 + a ∧ s.1 + a < u + n ∧ s.1 + a < s.2 - a then (1 : Int) else 0) ≤ 1 := by split <;> omega
      have h5 := Int.mul_le_mul_of_nonneg_left h4 (by omega : 0 ≤ 2 * a)
      omega
    · rw [if_neg (by omega), Int.mul_zero] at h2
      omega
theorem serveAt_low {a x : Int} : ∀ bars : List (Int × Int), (∀ s ∈ bars, x < s.1 + a) → serveAt bars a x = 0 := by
  refine snocI (fun _ => rfl) ?_
  intro b s ih h
  rw [serveAt_snoc, ih fun p hp => h p (by simp [hp]), if_neg (by have := h s (by simp); omega)]
  rfl
def levK (l : List (Int × Int)) (d : Int) (k : Nat) : List (Int × Int) := levGo ((k : Int) * areaOf d) l []
theorem boundN_sum (l : List (Int × Int)) (d a : Int) : ∀ n : Nat, boundN l d a n = sumK (fun k => 2 * a + bGo a none (levK l d k) 0) n
  | 0 => rfl
  | n + 1 => by
    rw [boundN, sumK, boundN_sum l d a n, boundK, bGo_add]
    show _ = sumK _ n + (2 * a + bGo a none (levGo ((n : Int) * areaOf d) l []) 0)
    omega
theorem lev_facts {l : List (Int × Int)} {d a : Int} (hg : givenE l d a = 0) (k : Nat) : Asc (levK l d k) ∧ (∀ s ∈ levK l d k, InR s) ∧ (∀ y, cov (levK l d k) y ↔ (k : Int) * areaOf d < needAt l y) ∧ ((k : Int) < leastN l d → levK l d k ≠ []) := by
  obtain ⟨hs1, hs2, hlast, hz, ha0, ha1, hA0, hA1⟩ := givenZ hg
  have e0 : (0 : Int) ≤ (k : Int) * areaOf d := Int.mul_nonneg (by omega) (by omega)
  refine ⟨spans_asc hs2 _, (spans_bd hs1 hs2 _).2, fun y => by rw [need_eq]; exact spans_cov e0 hs2 hlast, fun hk h => ?_⟩
  have h1 := (least_k (l := l) (d := d) (k := (k : Int) + 1) (by omega)).1 (by omega)
  rw [show (k : Int) + 1 - 1 = k by omega] at h1
  have h2 := (spans_some e0 hlast).2 h1
  have h3 : (levK l d k).length = 0 := by rw [h]; rfl
  rw [levK] at h3
  omega
theorem serve_k {l bars : List (Int × Int)} {d a x : Int} {k : Nat} (hA : 0 ≤ areaOf d) (hok : okAt l bars a (areaOf d) x) (h : (k : Int) * areaOf d < needAt l x) : (k : Int) + 1 ≤ serveAt bars a x := by
  unfold okAt at hok
  have := Int.lt_of_mul_lt_mul_right (Int.lt_of_lt_of_le h hok) hA
  omega
theorem bound_low {l bars : List (Int × Int)} {d a : Int} (hg : givenE l d a = 0) (hb : ∀ s ∈ bars, barOk s) (hok : ∀ x, okAt l bars a (areaOf d) x) (n : Nat) (hn : (n : Int) ≤ leastN l d) : boundN l d a n ≤ spanS bars := by
  obtain ⟨hs1, hs2, hlast, hz, ha0, ha1, hA0, hA1⟩ := givenZ hg
  obtain ⟨R0, hR0⟩ : ∃ R0 : Int, R0 = -3000000 := ⟨_, rfl⟩
  obtain ⟨R, hR⟩ : ∃ R : Int, R = 3000000 := ⟨_, rfl⟩
  have h1 := segT_le ha0 R0 (R - R0).toNat bars hb
  have h2 := cake ha0 (f := serveAt bars a) (fun x => (serveAt_nn a x bars).1) R0 n (R - R0).toNat
  have h3 : sumK (fun k => 2 * a + bGo a none (levK l d k) 0) n ≤ sumK (fun k => seg a (lv (serveAt bars a) k) R0 (R - R0).toNat) n := by
    refine sumK_le n fun k hk => ?_
    obtain ⟨f1, f2, f3, f4⟩ := lev_facts hg k
    refine spans_cost ha0 (f4 (by omega)) (fun s hs x hx1 hx2 => ?_) f1.2 (f1.1.imp fun h => by omega) ?_ (fun s hs => ?_) (fun s hs => ?_)
    · exact decide_eq_true (serve_k (by omega) (hok x) ((f3 x).1 ⟨s, hs, hx1, hx2⟩))
    · refine decide_eq_false ?_
      rw [serveAt_low bars fun s hs => by have := hb s hs; unfold barOk at this; omega]
      omega
    · have := f2 s hs; unfold InR at this; omega
    · have := f2 s hs; unfold InR at this; omega
  rw [boundN_sum]
  omega
end Go.Proofs.Ytigjoaejncfmdaa
namespace Go.Proofs.Ytigjoaejncfmdaa
open Go Go.AM
set_option linter.unusedSimpArgs false
set_option linter.unusedVariables false
set_option maxRecDepth 100000

theorem bGo_snoc2 (a : Int) (q x : Int × Int) : ∀ (l : List (Int × Int)) (p : Option (Int × Int)) (s0 : Int), bGo a p (l ++ [q] ++ [x]) s0 = bGo a p (l ++ [q]) s0 + (x.2 - x.1) + min (x.1 - q.2) (2 * a)
  | [], none, s0 => by simp [bGo]
  | [], some r, s0 => by simp [bGo]
  | y :: l, none, s0 => by
    rw [List.cons_append, List.cons_append, bGo, bGo]
    exact bGo_snoc2 a q x l (some y) _
  | y :: l, some r, s0 => by
    rw [List.cons_append, List.cons_append, bGo, bGo]
    exact bGo_snoc2 a q x l (some y) _
theorem spanS_app (A B : List (Int × Int)) : spanS (A ++ B) = spanS A + spanS B := by simp [spanS]
theorem spanS_one (s : Int × Int) : spanS [s] = s.2 - s.1 := by simp [spanS]
theorem set_last {T : Type} (ys : List T) (o v : T) : (ys ++ [o]).set ((ys ++ [o]).length - 1) v = ys ++ [v] := by
  rw [List.length_append, List.length_singleton, show ys.length + 1 - 1 = ys.length by omega, List.set_append_right _ _ (Nat.le_refl _), Nat.sub_self]
  rfl
theorem rj_facts {a : Int} (ha : 0 ≤ a) : ∀ l : List (Int × Int), Asc l → (l ≠ [] → spanS (rjL a l) = 2 * a + bGo a none l 0) ∧ (∀ b ∈ rjL a l, b.1 + a ≤ b.2 - a) ∧ ∀ x, cov l x → ∃ b ∈ rjL a l, b.1 + a ≤ x ∧ x < b.2 - a := by
  refine foldl_snoc_ind (fun _ => ⟨fun h => absurd rfl h, fun b hb => (by cases hb), fun x h => by obtain ⟨s, hs, _⟩ := h; cases hs⟩) ?_
  intro l s ih hasc
  obtain ⟨h1, h2, h3⟩ := hasc.snoc
  obtain ⟨i1, i2, i3⟩ := ih h1
  have hj := (join_asc a ha l h1).2
  have hcov : ∀ x, cov (l ++ [s]) x → cov l x ∨ (s.1 ≤ x ∧ x < s.2) := by
    rintro x ⟨y, hy, hx⟩
    rcases List.mem_append.1 hy with hy | hy
    · exact .inl ⟨y, hy, hx⟩
    · rw [List.mem_singleton] at hy; subst hy; exact .inr hx
  rw [rjL_snoc, rjAdd]
  cases hr : (rjL a l).getLast? with
  | none =>
    have hr0 : rjL a l = [] := List.getLast?_eq_none_iff.1 hr
    have hl : l = [] := by
      rcases Nat.eq_zero_or_pos l.length with h | h
      · exact List.eq_nil_of_length_eq_zero h
      · have := (rjL_len a l).2 h; rw [hr0] at this; simp at this
    subst hl
    simp only [hr0, List.nil_append]
    refine ⟨fun _ => ?_, fun b hb => ?_, fun x hx => ?_⟩
    · rw [spanS_one]; simp only [shiftS, bGo]; omega
    · rw [List.mem_singleton] at hb; subst hb; simp only [shiftS]; omega
    · rcases hcov x hx with ⟨y, hy, _⟩ | hx
      · cases hy
      · exact ⟨shiftS a s, by simp, by simp only [shiftS]; omega, by simp only [shiftS]; omega⟩
  | some o =>
    obtain ⟨ys, hys⟩ := List.getLast?_eq_some_iff.1 hr
    have hne : l ≠ [] := by
      intro e; subst e; cases hr
    obtain ⟨q, hq⟩ : ∃ q, l.getLast? = some q := ⟨_, List.getLast?_eq_some_getLast hne⟩
    obtain ⟨l', hl'⟩ := List.getLast?_eq_some_iff.1 hq
    have ho := hj o q hr hq
    obtain ⟨g1, g2⟩ := h3 q hq
    have i1' := i1 hne
    have hb := bGo_snoc2 a q s l' none 0
    rw [← hl'] at hb
    have hoi := i2 o (by rw [hys]; simp)
    simp only
    by_cases hc : (shiftS a s).1 ≤ o.2
    · rw [if_pos hc, hys, set_last]
      have hc' : s.1 - a ≤ o.2 := hc
      rw [hys, spanS_app, spanS_one] at i1'
      refine ⟨fun _ => ?_, fun b hbm => ?_, fun x hx => ?_⟩
      · rw [spanS_app, spanS_one, hb]
        simp only [shiftS]
        omega
      · rcases List.mem_append.1 hbm with hbm | hbm
        · exact i2 b (by rw [hys]; simp [hbm])
        · rw [List.mem_singleton] at hbm; subst hbm; simp only [shiftS]; omega
      · rcases hcov x hx with hx | hx
        · obtain ⟨b, hb1, hb2, hb3⟩ := i3 x hx
          rw [hys] at hb1
          rcases List.mem_append.1 hb1 with hb1 | hb1
          · exact ⟨b, by simp [hb1], hb2, hb3⟩
          · rw [List.mem_singleton] at hb1; subst hb1
            exact ⟨(b.1, (shiftS a s).2), by simp, hb2, by simp only [shiftS]; omega⟩
        · exact ⟨(o.1, (shiftS a s).2), by simp, by simp only; omega, by simp only [shiftS]; omega⟩
    · rw [if_neg hc]
      have hc' : ¬ s.1 - a ≤ o.2 := hc
      refine ⟨fun _ => ?_, fun b hbm => ?_, fun x hx => ?_⟩
      · rw [spanS_app, spanS_one, hb, i1']
        simp only [shiftS]
        omega
      · rcases List.mem_append.1 hbm with hbm | hbm
        · exact i2 b hbm
        · rw [List.mem_singleton] at hbm; subst hbm; simp only [shiftS]; omega
      · rcases hcov x hx with hx | hx
        · obtain ⟨b, hb1, hb2, hb3⟩ := i3 x hx
          exact ⟨b, by simp [hb1], hb2, hb3⟩
        · exact ⟨shiftS a s, by simp, by simp only [shiftS]; omega, by simp only [shiftS]; omega⟩
theorem serveAt_app (A B : List (Int × Int)) (a x : Int) : serveAt (A ++ B) a x = serveAt A a x + serveAt B a x := by simp [serveAt]
theorem serve_mem {a x : Int} {b : Int × Int} (h1 : b.1 + a ≤ x) (h2 : x < b.2 - a) : ∀ {l : List (Int × Int)}, b ∈ l → 1 ≤ serveAt l a x := by
  intro l hl
  obtain ⟨p, q, rfl⟩ := List.append_of_mem hl
  rw [show p ++ b :: q = p ++ ([b] ++ q) from rfl, serveAt_app, serveAt_app]
  have e1 := (serveAt_nn a x p).1
  have e2 := (serveAt_nn a x q).1
  have e3 : serveAt [b] a x = 1 := by simp [serveAt, h1, h2]
  omega
theorem coverK_eq {l : List (Int × Int)} {d a : Int} (hg : givenE l d a = 0) (k : Nat) : coverK l d a k = rjL a (levK l d k) := (join_asc a (givenZ hg).2.2.2.2.1 _ (lev_facts hg k).1).1
theorem coverN_facts {l : List (Int × Int)} {d a : Int} (hg : givenE l d a = 0) : ∀ n : Nat, (n : Int) ≤ leastN l d → spanS (coverN l d a n) = boundN l d a n ∧ n ≤ (coverN l d a n).length
  | 0, _ => ⟨rfl, Nat.zero_le _⟩
  | n + 1, hn => by
    obtain ⟨i1, i2⟩ := coverN_facts hg n (by omega)
    obtain ⟨f1, f2, f3, f4⟩ := lev_facts hg n
    have hne := f4 (by omega)
    have r1 := (rj_facts (givenZ hg).2.2.2.2.1 _ f1).1 hne
    have r2 := (rjL_len a (levK l d n)).2 (List.length_pos_iff.2 hne)
    rw [coverN, coverK_eq hg, spanS_app, i1, r1, boundN, boundK, List.length_append]
    have e := bGo_add a (levK l d n) none (boundN l d a n + 2 * a)
    exact ⟨by show _ = bGo a none (levK l d n) (boundN l d a n + 2 * a); rw [e]; omega, by omega⟩
theorem cover_serve {l : List (Int × Int)} {d a x : Int} (hg : givenE l d a = 0) : ∀ m : Nat, (∀ k : Nat, k < m → (k : Int) * areaOf d < needAt l x) → (m : Int) ≤ serveAt (coverN l d a m) a x
  | 0, _ => by simp [coverN, serveAt]
  | m + 1, h => by
    have ih := cover_serve (x := x) hg m fun k hk => h k (by omega)
    obtain ⟨f1, f2, f3, f4⟩ := lev_facts hg m
    obtain ⟨b, hb1, hb2, hb3⟩ := (rj_facts (givenZ hg).2.2.2.2.1 _ f1).2.2 x ((f3 x).2 (h m (by omega)))
    have := serve_mem hb2 hb3 hb1
    rw [coverN, coverK_eq hg, serveAt_app]
    omega
theorem cover_mono {l : List (Int × Int)} {d a x : Int} {m : Nat} : ∀ n : Nat, m ≤ n → serveAt (coverN l d a m) a x ≤ serveAt (coverN l d a n) a x
  | 0, h => by rw [show m = 0 by omega]; exact Int.le_refl _
  | n + 1, h => by
    by_cases e : m = n + 1
    · rw [e]; exact Int.le_refl _
    · have h1 := cover_mono (l := l) (d := d) (a := a) (x := x) n (by omega : m ≤ n)
      have h2 := (serveAt_nn a x (coverK l d a n)).1
      rw [coverN, serveAt_app]
      omega
theorem cover_ok {l : List (Int × Int)} {d a : Int} (hg : givenE l d a = 0) (x : Int) : okAt l (coverN l d a (leastN l d).toNat) a (areaOf d) x := by
  obtain ⟨hs1, hs2, hlast, hz, ha0, ha1, hA0, hA1⟩ := givenZ hg
  have hA : 0 < areaOf d := by omega
  unfold okAt
  rcases Int.lt_or_le 0 (needAt l x) with hw | hw
  · generalize hm : (needAt l x - 1) / areaOf d = m
    have hm0 : 0 ≤ m := by rw [← hm]; exact Int.ediv_nonneg (by omega) (by omega)
    have hm1 : m * areaOf d ≤ needAt l x - 1 := by rw [← hm]; exact Int.ediv_mul_le _ (by omega)
    have hm2 : needAt l x - 1 < (m + 1) * areaOf d := by rw [← hm]; exact Int.lt_ediv_add_one_mul_self _ hA
    have hk : ∀ k : Nat, k < m.toNat + 1 → (k : Int) * areaOf d < needAt l x := by
      intro k hk
      have : (k : Int) * areaOf d ≤ m * areaOf d := Int.mul_le_mul_of_nonneg_right (by omega) (by omega)
      omega
    have hs := cover_serve (x := x) hg (m.toNat + 1) hk
    have hle : m.toNat + 1 ≤ (leastN l d).toNat := by
      rcases Int.lt_or_le m (leastN l d) with h | h
      · omega
      · exfalso
        have hc := ((lev_facts hg m.toNat).2.2.1 x).2 (hk m.toNat (by omega))
        obtain ⟨s, hsm, _⟩ := hc
        have e0 : (0 : Int) ≤ (m.toNat : Int) * areaOf d := Int.mul_nonneg (by omega) (by omega)
        have h1 := (spans_some e0 hlast).1 (List.length_pos_iff.2 (List.ne_nil_of_mem hsm))
        have h2 := (least_k (l := l) (d := d) (k := m + 1) (by omega)).2 (by rw [show m + 1 - 1 = ((m.toNat : Nat) : Int) by omega]; exact h1)
        omega
    have hmn := cover_mono (l := l) (d := d) (a := a) (x := x) _ hle
    have h3 : m + 1 ≤ serveAt (coverN l d a (leastN l d).toNat) a x := by omega
    have h4 := Int.mul_le_mul_of_nonneg_right h3 (by omega : 0 ≤ areaOf d)
    omega
  · have := Int.mul_nonneg (serveAt_nn a x (coverN l d a (leastN l d).toNat)).1 (by omega : 0 ≤ areaOf d)
    omega
end Go.Proofs.Ytigjoaejncfmdaa
