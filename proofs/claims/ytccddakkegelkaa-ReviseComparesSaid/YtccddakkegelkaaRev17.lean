/-
  Layer 41: what comes and what goes, summed in two ways.
  Conditions: none.
-/
import Derived.Test.YtccddakkegelkaaRev9
namespace Go.Proofs.Ytccddakkegelkaa
open Go Go.AM
set_option linter.unusedSimpArgs false
set_option linter.unusedVariables false
set_option maxRecDepth 100000

theorem massK_sum (ks : List Int) (ch : List Chg) : ∀ l : List Bar, massK ks ch l = (l.map fun x => if ofK ch x.mark ∈ ks then barMass x else 0).sum := by
  refine snoc_ind rfl ?_
  intro l s ih
  rw [massK_snoc, List.map_append, List.sum_append, ← ih]
  simp only [List.map_cons, List.map_nil, List.sum_cons, List.sum_nil]
  split <;> omega
theorem sum_zero {T : Type} (l : List T) : (l.map fun _ => (0 : Int)).sum = 0 := by induction l with
  | nil => rfl
  | cons x l ih => simp [ih]
theorem sum_add {T : Type} (f g : T → Int) (l : List T) : (l.map fun x => f x + g x).sum = (l.map f).sum + (l.map g).sum := by induction l with
  | nil => rfl
  | cons x l ih => simp only [List.map_cons, List.sum_cons, ih]; omega
theorem sum_swap {T U : Type} (h : T → U → Int) (b : List U) : ∀ a : List T, (a.map fun x => (b.map fun y => h x y).sum).sum = (b.map fun y => (a.map fun x => h x y).sum).sum
  | [] => by simp only [List.map_nil, List.sum_nil]; exact (sum_zero b).symm
  | x :: a => by
    simp only [List.map_cons, List.sum_cons]
    rw [sum_swap h b a, sum_add]
theorem sum_filter {T : Type} (p : T → Bool) (f : T → Int) (l : List T) : ((l.filter p).map f).sum = (l.map fun y => if p y = true then f y else 0).sum := by induction l with
  | nil => rfl
  | cons x l ih =>
    cases hp : p x with
    | true => rw [List.filter_cons_of_pos hp]; simp only [List.map_cons, List.sum_cons, hp, if_true, ih]
    | false => rw [List.filter_cons_of_neg (by simp [hp])]; simp only [List.map_cons, List.sum_cons, hp, Bool.false_eq_true, if_false, ih]; omega
theorem sum_congr {T : Type} {f g : T → Int} {l : List T} (h : ∀ x ∈ l, f x = g x) : (l.map f).sum = (l.map g).sum := by rw [List.map_congr_left h]
theorem barAt_cons (x : Bar) (l : List Bar) (mk : List UInt8) : barAt (x :: l) mk = if x.mark = mk then some x else barAt l mk := by
  unfold barAt
  rw [List.find?_cons]
  by_cases h : x.mark = mk
  · simp [h]
  · simp [h]
theorem barAt_self : ∀ {l : List Bar} {x : Bar}, l.Pairwise (fun a b => a.mark ≠ b.mark) → x ∈ l → barAt l x.mark = some x
  | y :: l, x, h, hx => by
    rw [barAt_cons]
    rw [List.pairwise_cons] at h
    rcases List.mem_cons.1 hx with rfl | hx
    · rw [if_pos rfl]
    · rw [if_neg (h.1 x hx)]
      exact barAt_self h.2 hx
theorem barAt_no {l : List Bar} {mk : List UInt8} (h : ∀ x ∈ l, x.mark ≠ mk) : barAt l mk = none := by
  unfold barAt
  rw [List.find?_eq_none]
  intro x hx
  simpa using h x hx
def atF (f : Bar → Int) : Option Bar → Int
  | some x => f x
  | none => 0
theorem sum_pick (f : Bar → Int) (mk : List UInt8) : ∀ l : List Bar, l.Pairwise (fun a b => a.mark ≠ b.mark) → (l.map fun x => if x.mark = mk then f x else 0).sum = atF f (barAt l mk)
  | [], _ => rfl
  | x :: l, h => by
    rw [List.pairwise_cons] at h
    rw [barAt_cons]
    simp only [List.map_cons, List.sum_cons, sum_pick f mk l h.2]
    by_cases hm : x.mark = mk
    · rw [if_pos hm, if_pos hm, barAt_no (fun y hy e => h.1 y hy (hm.trans e.symm))]
      simp only [atF]
      omega
    · rw [if_neg hm, if_neg hm]
      omega
theorem ofK_cmp (b : List Bar) (r : List Chg) (mk : List UInt8) : ∀ a : List Bar, ofK (a.map (cK b) ++ r) mk = match barAt a mk with
    | some x => kindOf b x
    | none => ofK r mk
  | [] => rfl
  | x :: a => by
    rw [barAt_cons, List.map_cons, List.cons_append, ofK]
    by_cases h : x.mark = mk
    · rw [if_pos h, if_pos (show (cK b x).2 = mk from h)]; rfl
    · rw [if_neg h, if_neg (show ¬ (cK b x).2 = mk from h)]
      exact ofK_cmp b r mk a
theorem ofK_add : ∀ {l : List Bar} {y : Bar}, y ∈ l → ofK (l.map addK) y.mark = 3
  | x :: l, y, h => by
    rw [List.map_cons, ofK]
    by_cases hm : (addK x).2 = y.mark
    · rw [if_pos hm]; rfl
    · rw [if_neg hm]
      rcases List.mem_cons.1 h with rfl | h
      · exact absurd rfl hm
      · exact ofK_add h
theorem newP_iff (a : List Bar) (y : Bar) : newP a y = true ↔ barAt a y.mark = none := by
  unfold newP
  rw [decide_eq_true_eq]
  constructor
  · exact barAt_none
  · intro h
    rcases Int.lt_or_le (markI a y.mark) 0 with h1 | h1
    · exact h1
    · obtain ⟨z, hz, _⟩ := barAt_some h1
      rw [hz] at h
      cases h
theorem kind_some {b : List Bar} {x y : Bar} (h : barAt b x.mark = some y) : kindOf b x = if sameD x y ∧ x.count = y.count then 1 else 2 := by rw [kindOf, h]
theorem kind_none {b : List Bar} {x : Bar} (h : barAt b x.mark = none) : kindOf b x = 4 := by rw [kindOf, h]
theorem rg_law {a b : List Bar} (ha : okSched a) (hb : okSched b) : rgS a (cmpP a b) = goesP a b := by
  unfold rgS goesP
  rw [massK_sum, cmpP, List.map_append, List.sum_append, List.map_map, List.map_map]
  have h2 : ((b.filter (newP a)).map ((fun c : Chg => if c.1 = 4 ∨ c.1 = 2 then massAt a c.2 else 0) ∘ addK)).sum = 0 := by
    exact (sum_congr (g := fun _ => 0) fun x _ => by simp [addK]).trans (sum_zero _)
  rw [h2, Int.add_zero]
  refine sum_congr fun x hx => ?_
  have hs := barAt_self ha.2.2 hx
  rw [ofK_cmp, hs]
  simp only [Function.comp, cK, massAt, hs, List.mem_cons, List.not_mem_nil, or_false]
  by_cases h : kindOf b x = 4 ∨ kindOf b x = 2
  · rw [if_pos h, if_pos (by omega)]
  · rw [if_neg h, if_neg (by omega)]
def cF (x y : Bar) : Int := if sameD x y ∧ x.count = y.count then 0 else barMass y
theorem rc_law {a b : List Bar} (ha : okSched a) (hb : okSched b) : rcS b (cmpP a b) = comesP a b := by
  unfold rcS comesP
  rw [massK_sum]
  have e1 : (cmpP a b).map (fun c : Chg => if c.1 = 3 ∨ c.1 = 2 then massAt b c.2 else 0) = (a.map fun x => if kindOf b x = 3 ∨ kindOf b x = 2 then massAt b x.mark else 0) ++ ((b.filter (newP a)).map fun y => massAt b y.mark) := by
    rw [cmpP, List.map_append, List.map_map, List.map_map]
    congr 1
  rw [e1, List.sum_append, sum_filter]
  have e2 : (a.map fun x => if kindOf b x = 3 ∨ kindOf b x = 2 then massAt b x.mark else 0).sum = (b.map fun y => (a.map fun x => if x.mark = y.mark then cF x y else 0).sum).sum := by
    rw [← sum_swap]
    refine sum_congr fun x hx => ?_
    have e3 : (b.map fun y => if x.mark = y.mark then cF x y else 0).sum = (b.map fun y => if y.mark = x.mark then cF x y else 0).sum := sum_congr fun y _ => by
      by_cases h : x.mark = y.mark
      · rw [if_pos h, if_pos h.symm]
      · rw [if_neg h, if_neg (fun e => h e.symm)]
    rw [e3, sum_pick (cF x) x.mark b hb.2.2]
    cases hy : barAt b x.mark with
    | none => rw [kind_none hy]; simp [atF]
    | some y =>
      rw [kind_some hy]
      simp only [atF, cF, massAt, hy]
      split
      · simp
      · simp
  rw [e2, ← sum_add]
  refine sum_congr fun y hy => ?_
  have hs := barAt_self hb.2.2 hy
  have e4 : (a.map fun x => if x.mark = y.mark then cF x y else 0).sum = atF (fun x => cF x y) (barAt a y.mark) := sum_pick (fun x => cF x y) y.mark a ha.2.2
  rw [e4, cmpP, ofK_cmp]
  cases hx : barAt a y.mark with
  | none =>
    have hn := (newP_iff a y).2 hx
    rw [if_pos hn]
    simp only [atF]
    rw [ofK_add (List.mem_filter.2 ⟨hy, hn⟩)]
    simp [massAt, hs]
  | some x =>
    have hn : ¬ newP a y = true := fun h => by rw [(newP_iff a y).1 h] at hx; cases hx
    rw [if_neg hn]
    have hm := (barAt_mem hx).2
    simp only [atF]
    have hk := kind_some (show barAt b x.mark = some y by rw [hm]; exact hs)
    by_cases h : sameD x y ∧ x.count = y.count
    · rw [if_pos h] at hk
      simp [hk, cF, h]
    · rw [if_neg h] at hk
      simp [hk, cF, h]
end Go.Proofs.Ytccddakkegelkaa
