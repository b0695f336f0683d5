/-
  Layer 41: the changes the other way round, and to itself.
  Conditions: none.
-/
import Derived.Test.YtccddakkegelkaaRev17a
namespace Go.Proofs.Ytccddakkegelkaa
open Go Go.AM
set_option linter.unusedSimpArgs false
set_option linter.unusedVariables false
set_option maxRecDepth 100000

def turnK (k : Int) : Int := if k = 3 then 4 else if k = 4 then 3 else k
theorem kind_in (b : List Bar) (x : Bar) : kindOf b x = 1 ∨ kindOf b x = 2 ∨ kindOf b x = 4 := by
  unfold kindOf
  split
  · omega
  · split <;> omega
theorem sameD_comm (x y : Bar) : (sameD y x ∧ y.count = x.count) ↔ (sameD x y ∧ x.count = y.count) := by
  unfold sameD
  exact ⟨fun ⟨⟨h1, h2, h3⟩, h4⟩ => ⟨⟨h1.symm, h2.symm, h3.symm⟩, h4.symm⟩, fun ⟨⟨h1, h2, h3⟩, h4⟩ => ⟨⟨h1.symm, h2.symm, h3.symm⟩, h4.symm⟩⟩
theorem kind_both {a b : List Bar} {x y : Bar} (hx : barAt b x.mark = some y) (hy : barAt a y.mark = some x) : kindOf a y = kindOf b x := by
  rw [kind_some hx, kind_some hy]
  by_cases h : sameD x y ∧ x.count = y.count
  · rw [if_pos h, if_pos ((sameD_comm x y).2 h)]
  · rw [if_neg h, if_neg (fun e => h ((sameD_comm x y).1 e))]
theorem ofK_own {a b : List Bar} (ha : okSched a) {x : Bar} (hx : x ∈ a) : ofK (cmpP a b) x.mark = kindOf b x := by rw [cmpP, ofK_cmp, barAt_self ha.2.2 hx]
theorem ofK_turn {a b : List Bar} (hb : okSched b) {y : Bar} (hy : y ∈ b) : ofK (cmpP a b) y.mark = turnK (kindOf a y) := by
  have hs := barAt_self hb.2.2 hy
  rw [cmpP, ofK_cmp]
  cases hx : barAt a y.mark with
  | none =>
    have hn := (newP_iff a y).2 hx
    rw [kind_none hx]
    simp only
    rw [ofK_add (List.mem_filter.2 ⟨hy, hn⟩)]
    rfl
  | some x =>
    have hm := (barAt_memB hx).2
    simp only
    rw [← kind_both (x := x) (y := y) (a := a) (b := b) (by rw [hm]; exact hs) hx]
    rcases kind_in a y with h | h | h
    · rw [h]; rfl
    · rw [h]; rfl
    · exfalso
      rw [kind_some hx] at h
      split at h <;> omega
theorem comes_turn {a b : List Bar} (hb : okSched b) : comesP a b = goesP b a := by
  unfold comesP goesP
  rw [massK_sum, massK_sum]
  refine sum_congr fun y hy => ?_
  rw [ofK_turn hb hy, ofK_own hb hy]
  simp only [List.mem_cons, List.not_mem_nil, or_false]
  rcases kind_in a y with h | h | h <;> rw [h] <;> rfl
def bothN (a b : List Bar) : Int := (a.map fun x => (b.map fun y => if x.mark = y.mark then (1 : Int) else 0).sum).sum
theorem both_comm (a b : List Bar) : bothN a b = bothN b a := by
  unfold bothN
  rw [sum_swap]
  refine sum_congr fun y _ => sum_congr fun x _ => ?_
  by_cases h : x.mark = y.mark
  · rw [if_pos h, if_pos h.symm]
  · rw [if_neg h, if_neg (fun e => h e.symm)]
theorem len_sum {T : Type} (l : List T) : (l.length : Int) = (l.map fun _ => (1 : Int)).sum := by induction l with
  | nil => rfl
  | cons x l ih => simp only [List.length_cons, List.map_cons, List.sum_cons, ← ih]; omega
theorem new_len' {a b : List Bar} (hb : okSched b) : ((a.filter (newP b)).length : Int) + bothN a b = a.length := by
  rw [len_sum (a.filter (newP b)), sum_filter, bothN, ← sum_add, len_sum a]
  refine sum_congr fun x _ => ?_
  have e : (b.map fun y => if x.mark = y.mark then (1 : Int) else 0).sum = (b.map fun y => if y.mark = x.mark then (1 : Int) else 0).sum := sum_congr fun y _ => by
    by_cases h : x.mark = y.mark
    · rw [if_pos h, if_pos h.symm]
    · rw [if_neg h, if_neg (fun e => h e.symm)]
  rw [e, sum_pick (fun _ => 1) x.mark b hb.2.2]
  cases hx : barAt b x.mark with
  | none => rw [if_pos ((newP_iff b x).2 hx)]; rfl
  | some y => rw [if_neg (fun h => by rw [(newP_iff b x).1 h] at hx; cases hx)]; rfl
theorem cmp_len_turn {a b : List Bar} (ha : okSched a) (hb : okSched b) : (cmpP a b).length = (cmpP b a).length := by
  have h1 := new_len' (a := a) hb
  have h2 := new_len' (a := b) ha
  have h3 := both_comm a b
  simp only [cmpP, List.length_append, List.length_map]
  omega
theorem turn_mem {a b : List Bar} (ha : okSched a) (hb : okSched b) {c : Chg} (h : c ∈ cmpP a b) : 1 ≤ c.1 ∧ c.1 ≤ 4 ∧ (turnK c.1, c.2) ∈ cmpP b a := by
  simp only [cmpP, List.mem_append, List.mem_map, List.mem_filter] at h
  rcases h with ⟨x, hx, rfl⟩ | ⟨x, ⟨hx, hn⟩, rfl⟩
  · have hk := kind_in b x
    refine ⟨by simp only [cK]; omega, by simp only [cK]; omega, ?_⟩
    simp only [cK]
    cases hy : barAt b x.mark with
    | none =>
      rw [kind_none hy]
      exact List.mem_append_right _ (List.mem_map.2 ⟨x, List.mem_filter.2 ⟨hx, (newP_iff b x).2 hy⟩, rfl⟩)
    | some y =>
      obtain ⟨hyb, hm⟩ := barAt_memB hy
      have hs := barAt_self ha.2.2 hx
      have hkk := kind_both hy (by rw [hm]; exact hs)
      refine List.mem_append_left _ (List.mem_map.2 ⟨y, hyb, ?_⟩)
      rw [cK, hkk, hm]
      congr 1
      rw [kind_some hy]
      split <;> rfl
  · refine ⟨by simp only [addK]; omega, by simp only [addK]; omega, List.mem_append_left _ (List.mem_map.2 ⟨x, hx, ?_⟩)⟩
    rw [cK, kind_none ((newP_iff a x).1 hn)]
    rfl
def totB (l : List Bar) : Int := (l.map barMass).sum
theorem totB_snoc (l : List Bar) (s : Bar) : totB (l ++ [s]) = totB l + barMass s := by simp [totB]
theorem totB_bd : ∀ l : List Bar, (∀ b ∈ l, okBar b) → 0 ≤ totB l ∧ totB l ≤ 10343154000 * l.length := by
  refine snoc_ind (fun _ => by simp [totB]) ?_
  intro l s ih h
  have h1 := ih fun b hb => h b (by simp [hb])
  obtain ⟨_, _, h3, h4⟩ := barMass_bd (h s (by simp))
  rw [totB_snoc, List.length_append, List.length_singleton]
  omega
def stayP (a b : List Bar) : Int := (a.map fun x => if kindOf b x = 1 then barMass x else 0).sum
theorem stay_goes {a b : List Bar} (ha : okSched a) : stayP a b + goesP a b = totB a := by
  unfold stayP goesP totB
  rw [massK_sum, ← sum_add]
  refine sum_congr fun x hx => ?_
  rw [ofK_own ha hx]
  simp only [List.mem_cons, List.not_mem_nil, or_false]
  rcases kind_in b x with h | h | h <;> rw [h] <;> simp
def stayF (x y : Bar) : Int := if sameD x y ∧ x.count = y.count then barMass x else 0
theorem bar_same {x y : Bar} (hm : x.mark = y.mark) (h : sameD x y ∧ x.count = y.count) : x = y := by
  obtain ⟨⟨h1, h2, h3⟩, h4⟩ := h
  cases x; cases y
  simp only at hm h1 h2 h3 h4
  subst hm h1 h2 h3 h4
  rfl
theorem stay_double {a b : List Bar} (hb : okSched b) : stayP a b = (a.map fun x => (b.map fun y => if y.mark = x.mark then stayF x y else 0).sum).sum := by
  refine sum_congr fun x _ => ?_
  rw [sum_pick (stayF x) x.mark b hb.2.2]
  cases hy : barAt b x.mark with
  | none => rw [kind_none hy]; simp [atF]
  | some y =>
    rw [kind_some hy]
    simp only [atF, stayF]
    by_cases h : sameD x y ∧ x.count = y.count
    · rw [if_pos h, if_pos h, if_pos rfl]
    · rw [if_neg h, if_neg h, if_neg (by omega)]
theorem stay_turn {a b : List Bar} (ha : okSched a) (hb : okSched b) : stayP a b = stayP b a := by
  rw [stay_double hb, stay_double ha, sum_swap]
  refine sum_congr fun y _ => sum_congr fun x _ => ?_
  by_cases h : y.mark = x.mark
  · rw [if_pos h, if_pos h.symm, stayF, stayF]
    by_cases hs : sameD x y ∧ x.count = y.count
    · rw [if_pos hs, if_pos ((sameD_comm x y).2 hs), bar_same h.symm hs]
    · rw [if_neg hs, if_neg (fun e => hs ((sameD_comm x y).1 e))]
  · rw [if_neg h, if_neg (fun e => h e.symm)]
theorem tot_turn {a b : List Bar} (ha : okSched a) (hb : okSched b) : totB b - totB a = comesP a b - goesP a b := by
  have h1 := stay_goes (b := b) ha
  have h2 := stay_goes (b := a) hb
  have h3 := stay_turn ha hb
  have h4 := comes_turn (a := a) hb
  omega
/-! From a schedule to itself, from nothing, to nothing. -/
def allK (k : Int) (l : List Bar) : List Chg := l.map fun x => (k, x.mark)
theorem cmp_self {a : List Bar} (ha : okSched a) : cmpP a a = allK 1 a := by
  rw [cmpP, allK]
  have h1 : a.filter (newP a) = [] := by
    rw [List.filter_eq_nil_iff]
    intro x hx h
    have h2 := (newP_iff a x).1 h
    rw [barAt_self ha.2.2 hx] at h2
    cases h2
  rw [h1, List.map_nil, List.append_nil]
  refine List.map_congr_left fun x hx => ?_
  rw [cK, kind_some (barAt_self ha.2.2 hx), if_pos ⟨⟨rfl, rfl, rfl⟩, rfl⟩]
theorem cmp_from (a : List Bar) : cmpP [] a = allK 3 a := by
  rw [cmpP, allK, List.map_nil, List.nil_append]
  have h1 : a.filter (newP []) = a := by
    rw [List.filter_eq_self]
    intro x _
    exact (newP_iff [] x).2 rfl
  rw [h1]
  rfl
theorem cmp_to (a : List Bar) : cmpP a [] = allK 4 a := by
  rw [cmpP, allK, List.filter_nil, List.map_nil, List.append_nil]
  rfl
theorem allK_len (k : Int) (l : List Bar) : (allK k l).length = l.length := by simp [allK]
theorem ofK_all (k : Int) : ∀ {l : List Bar} {y : Bar}, y ∈ l → ofK (allK k l) y.mark = k
  | x :: l, y, h => by
    rw [allK, List.map_cons, ofK]
    by_cases hm : x.mark = y.mark
    · rw [if_pos hm]
    · rw [if_neg hm]
      rcases List.mem_cons.1 h with rfl | h
      · exact absurd rfl hm
      · exact ofK_all k h
theorem massK_all (ks : List Int) (k : Int) (l : List Bar) : massK ks (allK k l) l = if k ∈ ks then totB l else 0 := by
  rw [massK_sum]
  by_cases h : k ∈ ks
  · rw [if_pos h, totB]
    exact sum_congr fun x hx => by rw [ofK_all k hx, if_pos h]
  · rw [if_neg h]
    exact (sum_congr (g := fun _ => 0) fun x hx => by rw [ofK_all k hx, if_neg h]).trans (sum_zero l)
theorem okSched_nil : okSched [] := ⟨by simp, by simp, by simp⟩
theorem self_steel {a : List Bar} (ha : okSched a) : (comesP a a = 0 ∧ goesP a a = 0) ∧ (comesP [] a = totB a ∧ goesP [] a = 0) ∧ comesP a [] = 0 ∧ goesP a [] = totB a := by
  unfold comesP goesP
  rw [cmp_self ha, cmp_from, cmp_to, massK_all, massK_all, massK_all, massK_all]
  exact ⟨⟨rfl, rfl⟩, ⟨rfl, rfl⟩, rfl, rfl⟩
end Go.Proofs.Ytccddakkegelkaa
