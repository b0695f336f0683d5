/-
  Layer 41: sums over schedules.
  Conditions: none.
-/
import Derived.Test.YtccddakkegelkaaRev3
namespace Go.Proofs.Ytccddakkegelkaa
open Go Go.AM
set_option linter.unusedSimpArgs false
set_option linter.unusedVariables false
set_option maxRecDepth 100000

theorem massK_sum (ks : List Int) (ch : List Chg) : ∀ l : List Bar, massK ks ch l = (l.map fun x => if ofK ch x.mark ∈ ks then barMass x else 0).sum := by
  refine snoc_ind rfl ?_
  intro l s ih
  rw [massK_snoc, List.map_append, List.sum_append, ← ih]
  simp only [List.map_cons, List.map_nil, List.sum_cons, List.sum_nil]
  split <;> omega
theorem sum_zero {T : Type} (l : List T) : (l.map fun _ => (0 : Int)).sum = 0 := by induction l with
  | nil => rfl
  | cons x l ih => simp [ih]
theorem sum_add {T : Type} (f g : T → Int) (l : List T) : (l.map fun x => f x + g x).sum = (l.map f).sum + (l.map g).sum := by induction l with
  | nil => rfl
  | cons x l ih => simp only [List.map_cons, List.sum_cons, ih]; omega
theorem sum_swap {T U : Type} (h : T → U → Int) (b : List U) : ∀ a : List T, (a.map fun x => (b.map fun y => h x y).sum).sum = (b.map fun y => (a.map fun x => h x y).sum).sum
  | [] => by simp only [List.map_nil, List.sum_nil]; exact (sum_zero b).symm
  | x :: a => by
    simp only [List.map_cons, List.sum_cons]
    rw [sum_swap h b a, sum_add]
theorem sum_filter {T : Type} (p : T → Bool) (f : T → Int) (l : List T) : ((l.filter p).map f).sum = (l.map fun y => if p y = true then f y else 0).sum := by induction l with
  | nil => rfl
  | cons x l ih =>
    cases hp : p x with
    | true => rw [List.filter_cons_of_pos hp]; simp only [List.map_cons, List.sum_cons, hp, if_true, ih]
    | false => rw [List.filter_cons_of_neg (by simp [hp])]; simp only [List.map_cons, List.sum_cons, hp, Bool.false_eq_true, if_false, ih]; omega
theorem sum_congr {T : Type} {f g : T → Int} {l : List T} (h : ∀ x ∈ l, f x = g x) : (l.map f).sum = (l.map g).sum := by rw [List.map_congr_left h]
theorem barAt_cons (x : Bar) (l : List Bar) (mk : List UInt8) : barAt (x :: l) mk = if x.mark = mk then some x else barAt l mk := by
  unfold barAt
  rw [List.find?_cons]
  by_cases h : x.mark = mk
  · simp [h]
  · simp [h]
theorem barAt_self : ∀ {l : List Bar} {x : Bar}, l.Pairwise (fun a b => a.mark ≠ b.mark) → x ∈ l → barAt l x.mark = some x
  | y :: l, x, h, hx => by
    rw [barAt_cons]
    rw [List.pairwise_cons] at h
    rcases List.mem_cons.1 hx with rfl | hx
    · rw [if_pos rfl]
    · rw [if_neg (h.1 x hx)]
      exact barAt_self h.2 hx
theorem barAt_no {l : List Bar} {mk : List UInt8} (h : ∀ x ∈ l, x.mark ≠ mk) : barAt l mk = none := by
  unfold barAt
  rw [List.find?_eq_none]
  intro x hx
  simpa using h x hx
def atF (f : Bar → Int) : Option Bar → Int
  | some x => f x
  | none => 0
theorem sum_pick (f : Bar → Int) (mk : List UInt8) : ∀ l : List Bar, l.Pairwise (fun a b => a.mark ≠ b.mark) → (l.map fun x => if x.mark = mk then f x else 0).sum = atF f (barAt l mk)
  | [], _ => rfl
  | x :: l, h => by
    rw [List.pairwise_cons] at h
    rw [barAt_cons]
    simp only [List.map_cons, List.sum_cons, sum_pick f mk l h.2]
    by_cases hm : x.mark = mk
    · rw [if_pos hm, if_pos hm, barAt_no (fun y hy e => h.1 y hy (hm.trans e.symm))]
      simp only [atF]
      omega
    · rw [if_neg hm, if_neg hm]
      omega
theorem ofK_cmp (b : List Bar) (r : List Chg) (mk : List UInt8) : ∀ a : List Bar, ofK (a.map (cK b) ++ r) mk = match barAt a mk with
    | some x => kindOf b x
    | none => ofK r mk
  | [] => rfl
  | x :: a => by
    rw [barAt_cons, List.map_cons, List.cons_append, ofK]
    by_cases h : x.mark = mk
    · rw [if_pos h, if_pos (show (cK b x).2 = mk from h)]; rfl
    · rw [if_neg h, if_neg (show ¬ (cK b x).2 = mk from h)]
      exact ofK_cmp b r mk a
theorem ofK_add : ∀ {l : List Bar} {y : Bar}, y ∈ l → ofK (l.map addK) y.mark = 3
  | x :: l, y, h => by
    rw [List.map_cons, ofK]
    by_cases hm : (addK x).2 = y.mark
    · rw [if_pos hm]; rfl
    · rw [if_neg hm]
      rcases List.mem_cons.1 h with rfl | h
      · exact absurd rfl hm
      · exact ofK_add h
theorem newP_iff (a : List Bar) (y : Bar) : newP a y = true ↔ barAt a y.mark = none := by
  unfold newP
  rw [decide_eq_true_eq]
  constructor
  · exact barAt_none
  · intro h
    rcases Int.lt_or_le (markI a y.mark) 0 with h1 | h1
    · exact h1
    · obtain ⟨z, hz, _⟩ := barAt_some h1
      rw [hz] at h
      cases h
theorem kind_some {b : List Bar} {x y : Bar} (h : barAt b x.mark = some y) : kindOf b x = if sameD x y ∧ x.count = y.count then 1 else 2 := by rw [kindOf, h]
theorem kind_none {b : List Bar} {x : Bar} (h : barAt b x.mark = none) : kindOf b x = 4 := by rw [kindOf, h]
theorem barAt_memB {b : List Bar} {mk : List UInt8} {y : Bar} (h : barAt b mk = some y) : y ∈ b ∧ y.mark = mk := ⟨List.mem_of_find?_eq_some h, by simpa using List.find?_some h⟩
end Go.Proofs.Ytccddakkegelkaa
