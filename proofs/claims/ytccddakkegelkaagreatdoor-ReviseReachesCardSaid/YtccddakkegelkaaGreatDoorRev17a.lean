/-
  Layer 41: sums over schedules.
  Conditions: none.
-/
import Derived.Test.YtccddakkegelkaaGreatDoorRev2
import Derived.Test.YtccddakkegelkaaGreatDoorRev5
namespace Go.Proofs.YtccddakkegelkaaGreatDoor
open Go Go.AM
set_option linter.unusedSimpArgs false
set_option linter.unusedVariables false
set_option maxRecDepth 100000

theorem barAt_cons (x : Bar) (l : List Bar) (mk : List UInt8) : barAt (x :: l) mk = if x.mark = mk then some x else barAt l mk := by
  unfold barAt
  rw [List.find?_cons]
  by_cases h : x.mark = mk
  · simp [h]
  · simp [h]
theorem barAt_self : ∀ {l : List Bar} {x : Bar}, l.Pairwise (fun a b => a.mark ≠ b.mark) → x ∈ l → barAt l x.mark = some x
  | y :: l, x, h, hx => by
    rw [barAt_cons]
    rw [List.pairwise_cons] at h
    rcases List.mem_cons.1 hx with rfl | hx
    · rw [if_pos rfl]
    · rw [if_neg (h.1 x hx)]
      exact barAt_self h.2 hx
theorem barAt_no {l : List Bar} {mk : List UInt8} (h : ∀ x ∈ l, x.mark ≠ mk) : barAt l mk = none := by
  unfold barAt
  rw [List.find?_eq_none]
  intro x hx
  simpa using h x hx
def atF (f : Bar → Int) : Option Bar → Int
  | some x => f x
  | none => 0
theorem ofK_cmp (b : List Bar) (r : List Chg) (mk : List UInt8) : ∀ a : List Bar, ofK (a.map (cK b) ++ r) mk = match barAt a mk with
    | some x => kindOf b x
    | none => ofK r mk
  | [] => rfl
  | x :: a => by
    rw [barAt_cons, List.map_cons, List.cons_append, ofK]
    by_cases h : x.mark = mk
    · rw [if_pos h, if_pos (show (cK b x).2 = mk from h)]; rfl
    · rw [if_neg h, if_neg (show ¬ (cK b x).2 = mk from h)]
      exact ofK_cmp b r mk a
theorem ofK_add : ∀ {l : List Bar} {y : Bar}, y ∈ l → ofK (l.map addK) y.mark = 3
  | x :: l, y, h => by
    rw [List.map_cons, ofK]
    by_cases hm : (addK x).2 = y.mark
    · rw [if_pos hm]; rfl
    · rw [if_neg hm]
      rcases List.mem_cons.1 h with rfl | h
      · exact absurd rfl hm
      · exact ofK_add h
theorem newP_iff (a : List Bar) (y : Bar) : newP a y = true ↔ barAt a y.mark = none := by
  unfold newP
  rw [decide_eq_true_eq]
  constructor
  · exact barAt_none
  · intro h
    rcases Int.lt_or_le (markI a y.mark) 0 with h1 | h1
    · exact h1
    · obtain ⟨z, hz, _⟩ := barAt_some h1
      rw [hz] at h
      cases h
theorem kind_some {b : List Bar} {x y : Bar} (h : barAt b x.mark = some y) : kindOf b x = if sameD x y ∧ x.count = y.count then 1 else 2 := by rw [kindOf, h]
theorem kind_none {b : List Bar} {x : Bar} (h : barAt b x.mark = none) : kindOf b x = 4 := by rw [kindOf, h]
theorem barAt_memB {b : List Bar} {mk : List UInt8} {y : Bar} (h : barAt b mk = some y) : y ∈ b ∧ y.mark = mk := ⟨List.mem_of_find?_eq_some h, by simpa using List.find?_some h⟩
end Go.Proofs.YtccddakkegelkaaGreatDoor
namespace Go.Proofs.YtccddakkegelkaaGreatDoor
open Go Go.AM
set_option linter.unusedSimpArgs false
set_option linter.unusedVariables false
set_option maxRecDepth 100000

def turnK (k : Int) : Int := if k = 3 then 4 else if k = 4 then 3 else k
theorem kind_in (b : List Bar) (x : Bar) : kindOf b x = 1 ∨ kindOf b x = 2 ∨ kindOf b x = 4 := by
  unfold kindOf
  split
  · omega
  · split <;> omega
theorem ofK_own {a b : List Bar} (ha : okSched a) {x : Bar} (hx : x ∈ a) : ofK (cmpP a b) x.mark = kindOf b x := by rw [cmpP, ofK_cmp, barAt_self ha.2.2 hx]
def bothN (a b : List Bar) : Int := (a.map fun x => (b.map fun y => if x.mark = y.mark then (1 : Int) else 0).sum).sum
def totB (l : List Bar) : Int := (l.map barMass).sum
def stayP (a b : List Bar) : Int := (a.map fun x => if kindOf b x = 1 then barMass x else 0).sum
def stayF (x y : Bar) : Int := if sameD x y ∧ x.count = y.count then barMass x else 0
/-! From a schedule to itself, from nothing, to nothing. -/
def allK (k : Int) (l : List Bar) : List Chg := l.map fun x => (k, x.mark)
end Go.Proofs.YtccddakkegelkaaGreatDoor
namespace Go.Proofs.YtccddakkegelkaaGreatDoor
open Go Go.AM
set_option linter.unusedSimpArgs false
set_option linter.unusedVariables false
set_option maxRecDepth 100000
set_option maxHeartbeats 1000000

theorem bar_ext {x y : Bar} (h1 : x.mark = y.mark) (h2 : sameD x y) (h3 : x.count = y.count) : x = y := by
  obtain ⟨a, b, c⟩ := h2
  cases x; cases y; simp_all
theorem kind_same {b : List Bar} {x : Bar} (h : kindOf b x = 1) : x ∈ b := by
  cases hy : barAt b x.mark with
  | none => rw [kind_none hy] at h; cases h
  | some y =>
    rw [kind_some hy] at h
    split at h
    · rename_i hs
      obtain ⟨h1, h2⟩ := barAt_memB hy
      rw [bar_ext h2.symm hs.1 hs.2]; exact h1
    · cases h
theorem kind_self {b : List Bar} (hb : okSched b) {x : Bar} (hx : x ∈ b) : kindOf b x = 1 := by
  rw [kind_some (barAt_self hb.2.2 hx)]
  exact if_pos ⟨⟨rfl, rfl, rfl⟩, rfl⟩
theorem kind_two {b : List Bar} {x : Bar} (h : kindOf b x = 2) : ∃ y, barAt b x.mark = some y ∧ y ∈ b ∧ y.mark = x.mark := by
  cases hy : barAt b x.mark with
  | none => rw [kind_none hy] at h; cases h
  | some y => exact ⟨y, rfl, barAt_memB hy⟩
theorem kind_four {b : List Bar} {x : Bar} (h : kindOf b x = 4) : ∀ y ∈ b, y.mark ≠ x.mark := by
  cases hy : barAt b x.mark with
  | none =>
    intro y hyb e
    have := List.find?_eq_none.1 hy y hyb
    simp [e] at this
  | some y =>
    rw [kind_some hy] at h
    split at h <;> cases h
theorem cmp_mem {a b : List Bar} {c : Chg} (h : c ∈ cmpP a b) : (∃ x ∈ a, c = (kindOf b x, x.mark)) ∨ ∃ y ∈ b, newP a y = true ∧ c = (3, y.mark) := by
  simp only [cmpP, List.mem_append, List.mem_map, List.mem_filter] at h
  rcases h with ⟨x, hx, rfl⟩ | ⟨y, ⟨hy, hn⟩, rfl⟩
  · exact .inl ⟨x, hx, rfl⟩
  · exact .inr ⟨y, hy, hn, rfl⟩
theorem new_no {a : List Bar} {y : Bar} (h : newP a y = true) : ∀ x ∈ a, x.mark ≠ y.mark := by
  have h1 := (newP_iff a y).1 h
  intro x hx e
  have := List.find?_eq_none.1 h1 x hx
  simp [e] at this
theorem cmp_okChgs {a b : List Bar} (ha : okSched a) (hb : okSched b) : okChgs (cmpP a b) := by
  refine ⟨by have := cmp_len a b; have := ha.1; have := hb.1; omega, fun c hc => ?_, ?_⟩
  · rcases cmp_mem hc with ⟨x, hx, rfl⟩ | ⟨y, hy, _, rfl⟩
    · have hk := kind_in b x
      exact ⟨by simp only; omega, by simp only; omega, (ha.2.1 x hx).1⟩
    · exact ⟨(by decide : (1 : Int) ≤ 3), (by decide : (3 : Int) ≤ 4), (hb.2.1 y hy).1⟩
  · rw [cmpP, List.pairwise_append]
    refine ⟨?_, ?_, ?_⟩
    · rw [List.pairwise_map]; exact ha.2.2
    · rw [List.pairwise_map]; exact hb.2.2.sublist List.filter_sublist
    · intro c hc d hd
      simp only [List.mem_map, List.mem_filter] at hc hd
      obtain ⟨x, hx, rfl⟩ := hc
      obtain ⟨y, ⟨_, hn⟩, rfl⟩ := hd
      exact new_no hn x hx
/-- The lines of b whose marks are in a, in a's order, and then the new ones. -/
def reachP (a b : List Bar) : List Bar := a.flatMap (fun x => (barAt b x.mark).toList) ++ b.filter (newP a)
theorem flat_congr {T U : Type} {f g : T → List U} : ∀ {l : List T}, (∀ x ∈ l, f x = g x) → l.flatMap f = l.flatMap g
  | [], _ => rfl
  | x :: l, h => by rw [List.flatMap_cons, List.flatMap_cons, h x (by simp), flat_congr fun y hy => h y (by simp [hy])]
theorem keep_own {a b : List Bar} {l : List Chg} {x : Bar} (ha : okSched a) (hb : okSched b) (hx : x ∈ a) (hk : ofK l x.mark = kindOf b x) : keepP b l x = (barAt b x.mark).toList := by
  rcases kind_in b x with h | h | h
  · have hxb := kind_same h
    rw [keep_1 (hk.trans h), barAt_self hb.2.2 hxb]; rfl
  · obtain ⟨y, hy, _, _⟩ := kind_two h
    rw [keep_2 (hk.trans h) hy, hy]; rfl
  · rw [keep_0 (by omega) (by omega)]
    rw [barAt_no (kind_four h)]; rfl
theorem new_flat {b : List Bar} (hb : okSched b) : ∀ (l : List Bar), (∀ y ∈ l, y ∈ b) → (l.map addK).flatMap (newB b) = l
  | [], _ => rfl
  | y :: l, h => by
    have h1 := barAt_self hb.2.2 (h y (by simp))
    rw [List.map_cons, List.flatMap_cons, new_flat hb l fun z hz => h z (by simp [hz]), new_3 (c := addK y) (y := y) rfl h1]
    rfl
theorem old_flat {b : List Bar} : ∀ (l : List Bar), (l.map (cK b)).flatMap (newB b) = []
  | [] => rfl
  | x :: l => by
    have hk := kind_in b x
    rw [List.map_cons, List.flatMap_cons, old_flat l, new_0 (by simp only [cK]; omega)]
    rfl
theorem apply_reach {a b : List Bar} (ha : okSched a) (hb : okSched b) : applyP a b (cmpP a b) = reachP a b := by
  unfold applyP reachP
  congr 1
  · exact flat_congr fun x hx => keep_own ha hb hx (ofK_own ha hx)
  · rw [cmpP, List.flatMap_append, old_flat, List.nil_append]
    exact new_flat hb _ fun y hy => (List.mem_filter.1 hy).1
theorem mem_reach {a b : List Bar} (hb : okSched b) {y : Bar} : y ∈ reachP a b ↔ y ∈ b := by
  unfold reachP
  simp only [List.mem_append, List.mem_flatMap, List.mem_filter, Option.mem_toList]
  constructor
  · rintro (⟨x, _, hx⟩ | ⟨h, _⟩)
    · exact (barAt_memB hx).1
    · exact h
  · intro h
    cases hn : newP a y with
    | true => exact .inr ⟨h, rfl⟩
    | false =>
      left
      have : ¬ barAt a y.mark = none := fun e => by rw [(newP_iff a y).2 e] at hn; cases hn
      obtain ⟨x, hx⟩ := Option.ne_none_iff_exists'.1 this
      obtain ⟨h1, h2⟩ := barAt_memB hx
      exact ⟨x, h1, by rw [h2]; exact barAt_self hb.2.2 h⟩
theorem reach_marks {a b : List Bar} (ha : okSched a) (hb : okSched b) : (reachP a b).Pairwise fun x y => x.mark ≠ y.mark := by
  unfold reachP
  rw [List.pairwise_append]
  refine ⟨?_, hb.2.2.sublist List.filter_sublist, ?_⟩
  · have h := ha.2.2
    clear ha
    induction a with
    | nil => simp
    | cons x a ih =>
      rw [List.pairwise_cons] at h
      rw [List.flatMap_cons, List.pairwise_append]
      refine ⟨by cases barAt b x.mark <;> simp, ih h.2, fun y hy z hz => ?_⟩
      rw [Option.mem_toList] at hy
      obtain ⟨w, hw, hz⟩ := List.mem_flatMap.1 hz
      rw [Option.mem_toList] at hz
      rw [(barAt_memB hy).2, (barAt_memB hz).2]
      exact h.1 w hw
  · intro y hy z hz
    obtain ⟨x, hx, hy⟩ := List.mem_flatMap.1 hy
    rw [Option.mem_toList] at hy
    rw [(barAt_memB hy).2]
    exact new_no (List.mem_filter.1 hz).2 x hx
theorem nodup_marks {l : List Bar} (h : l.Pairwise fun x y => x.mark ≠ y.mark) : l.Nodup := h.imp fun h e => h (by rw [e])
theorem reach_perm {a b : List Bar} (ha : okSched a) (hb : okSched b) : (reachP a b).Perm b :=
  (List.perm_ext_iff_of_nodup (nodup_marks (reach_marks ha hb)) (nodup_marks hb.2.2)).2 fun _ => mem_reach hb
theorem okSched_perm {l m : List Bar} (h : l.Perm m) (hm : okSched m) : okSched l := ⟨by rw [h.length_eq]; exact hm.1, fun x hx => hm.2.1 x (h.mem_iff.1 hx), (h.pairwise_iff (fun h e => h e.symm)).2 hm.2.2⟩
theorem schedW_perm {l m : List Bar} (h : l.Perm m) (hm : schedW m) : schedW l := fun x hx => hm x (h.mem_iff.1 hx)
theorem fits_cmp {a b : List Bar} (ha : okSched a) (hb : okSched b) : ∀ c ∈ cmpP a b, fitC a b c := by
  intro c hc
  have hm : ∀ {l : List Bar} {x : Bar}, x ∈ l → 0 ≤ markI l x.mark := fun h => (idxP_nonneg _ _ 0 (Int.le_refl _)).2 ⟨_, h, by simp⟩
  rcases cmp_mem hc with ⟨x, hx, rfl⟩ | ⟨y, hy, hn, rfl⟩
  · refine ⟨fun _ => hm hx, fun h2 => ⟨hm hx, ?_⟩, fun h3 => ?_⟩
    · obtain ⟨y, _, h4, h5⟩ := kind_two h2
      simp only; rw [← h5]; exact hm h4
    · have := kind_in b x; simp only at h3; omega
  · refine ⟨fun h => by simp only at h; omega, fun h => by simp only at h; omega, fun _ => ⟨?_, hm hy⟩⟩
    simp only [newP, decide_eq_true_eq] at hn
    exact hn
theorem reach_apply {a b : List Bar} (ha : okSched a) (hb : okSched b) : appV a b (cmpP a b) = reachP a b ∧ appE a b (cmpP a b) = 0 := by
  have h1 : okApply a b (cmpP a b) := ⟨⟨ha, hb⟩, cmp_okChgs ha hb⟩
  have h2 : fitsP a b (cmpP a b) := ⟨fits_cmp ha hb, fun x hx => by rw [ofK_own ha hx]; have := kind_in b x; omega⟩
  have h3 : (applyP a b (cmpP a b)).length ≤ 60 := by rw [apply_reach ha hb, (reach_perm ha hb).length_eq]; exact hb.1
  exact ⟨(if_pos h1).trans ((if_pos h2).trans ((if_pos h3).trans (apply_reach ha hb))), (if_pos h1).trans ((if_pos h2).trans (if_pos h3))⟩
/-- From a schedule with the same lines all is kept. -/
theorem again_kept {m b : List Bar} (hb : okSched b) (h : m.Perm b) : ∀ c ∈ cmpP m b, c.1 = 1 := by
  intro c hc
  rcases cmp_mem hc with ⟨x, hx, rfl⟩ | ⟨y, hy, hn, rfl⟩
  · exact kind_self hb (h.mem_iff.1 hx)
  · exact absurd rfl (new_no hn y (h.mem_iff.2 hy))
theorem cmp_empty {a b : List Bar} (h : (cmpP a b).length = 0) : a.length = 0 ∧ b.length = 0 := by
  simp only [cmpP, List.length_append, List.length_map] at h
  have ha : a = [] := List.eq_nil_of_length_eq_zero (by omega)
  subst ha
  refine ⟨rfl, ?_⟩
  have h2 : b.filter (newP []) = b := by
    rw [List.filter_eq_self]
    intro y _
    exact (newP_iff [] y).2 rfl
  rw [h2] at h
  simpa using h
theorem ofK_zero : ∀ {l : List Chg} {mk : List UInt8}, (∀ c ∈ l, c.2 ≠ mk) → ofK l mk = 0
  | [], _, _ => rfl
  | c :: l, mk, h => by
    rw [ofK, if_neg (h c (by simp))]
    exact ofK_zero fun d hd => h d (by simp [hd])
theorem ofK_erase : ∀ {l : List Chg} {i : Nat} {c : Chg} {mk : List UInt8}, l.Pairwise (fun x y => x.2 ≠ y.2) → l[i]? = some c → ofK (l.eraseIdx i) mk = if c.2 = mk then 0 else ofK l mk
  | [], i, c, mk, _, h => by simp at h
  | d :: l, 0, c, mk, hp, h => by
    rw [List.pairwise_cons] at hp
    simp only [List.getElem?_cons_zero, Option.some.injEq] at h
    subst h
    rw [List.eraseIdx_zero, List.tail_cons, ofK]
    by_cases e : d.2 = mk
    · rw [if_pos e]
      exact ofK_zero fun x hx e2 => hp.1 x hx (e.trans e2.symm)
    · rw [if_neg e, if_neg e]
  | d :: l, i + 1, c, mk, hp, h => by
    rw [List.pairwise_cons] at hp
    rw [List.getElem?_cons_succ] at h
    rw [List.eraseIdx_cons_succ, ofK, ofK, ofK_erase hp.2 h]
    by_cases e : d.2 = mk
    · rw [if_pos e, if_pos e, if_neg (fun e2 => hp.1 c (List.mem_of_getElem? h) (e.trans e2.symm))]
    · rw [if_neg e, if_neg e]
theorem erase_sub {T : Type} (l : List T) (i : Nat) : (l.eraseIdx i).Sublist l := List.eraseIdx_sublist _ _
theorem okChgs_sub {l m : List Chg} (h : l.Sublist m) (hm : okChgs m) : okChgs l := ⟨Nat.le_trans h.length_le hm.1, fun c hc => hm.2.1 c (h.subset hc), hm.2.2.sublist h⟩
/-- Without a change of a mark of the first schedule the others do not fit. -/
theorem less_name {a b : List Bar} (ha : okSched a) (hb : okSched b) {i : Nat} {c : Chg} (hi : (cmpP a b)[i]? = some c) (hc : c.1 ≠ 3) : appV a b ((cmpP a b).eraseIdx i) = [] ∧ appE a b ((cmpP a b).eraseIdx i) = 9 := by
  have hL := cmp_okChgs ha hb
  have h1 : okApply a b ((cmpP a b).eraseIdx i) := ⟨⟨ha, hb⟩, okChgs_sub (erase_sub _ _) hL⟩
  have h2 : ¬ fitsP a b ((cmpP a b).eraseIdx i) := by
    rintro ⟨_, h⟩
    rcases cmp_mem (List.mem_of_getElem? hi) with ⟨x, hx, rfl⟩ | ⟨y, _, _, rfl⟩
    · exact h x hx (by rw [ofK_erase hL.2.2 hi, if_pos rfl])
    · exact hc rfl
  exact ⟨(if_pos h1).trans (if_neg h2), (if_pos h1).trans (if_neg h2)⟩
theorem flat_erase {T U : Type} (f : T → List U) : ∀ {l : List T} {i : Nat} {c : T}, l[i]? = some c → ((l.eraseIdx i).flatMap f).length + (f c).length = (l.flatMap f).length
  | [], i, c, h => by simp at h
  | d :: l, 0, c, h => by
    simp only [List.getElem?_cons_zero, Option.some.injEq] at h
    subst h
    simp only [List.eraseIdx_zero, List.tail_cons, List.flatMap_cons, List.length_append]; omega
  | d :: l, i + 1, c, h => by
    rw [List.getElem?_cons_succ] at h
    have := flat_erase f h
    simp only [List.eraseIdx_cons_succ, List.flatMap_cons, List.length_append]; omega
/-- Without the change of a new mark its line is missing. -/
theorem less_line {a b : List Bar} (ha : okSched a) (hb : okSched b) {i : Nat} {c : Chg} (hi : (cmpP a b)[i]? = some c) (hc : c.1 = 3) : (appV a b ((cmpP a b).eraseIdx i)).length + 1 = b.length ∧ appE a b ((cmpP a b).eraseIdx i) = 0 := by
  have hL := cmp_okChgs ha hb
  have h1 : okApply a b ((cmpP a b).eraseIdx i) := ⟨⟨ha, hb⟩, okChgs_sub (erase_sub _ _) hL⟩
  obtain ⟨y, hy, hn, rfl⟩ : ∃ y ∈ b, newP a y = true ∧ c = (3, y.mark) := by
    rcases cmp_mem (List.mem_of_getElem? hi) with ⟨x, hx, rfl⟩ | h
    · have := kind_in b x; simp only at hc; omega
    · exact h
  have hof : ∀ x ∈ a, ofK ((cmpP a b).eraseIdx i) x.mark = kindOf b x := fun x hx => by
    rw [ofK_erase hL.2.2 hi, if_neg (fun e => new_no hn x hx e.symm), ofK_own ha hx]
  have h2 : fitsP a b ((cmpP a b).eraseIdx i) := ⟨fun c hc => fits_cmp ha hb c ((erase_sub _ _).subset hc), fun x hx => by rw [hof x hx]; have := kind_in b x; omega⟩
  have hlen : (applyP a b ((cmpP a b).eraseIdx i)).length + 1 = b.length := by
    have e1 : a.flatMap (keepP b ((cmpP a b).eraseIdx i)) = a.flatMap (fun x => (barAt b x.mark).toList) := flat_congr fun x hx => keep_own ha hb hx (hof x hx)
    have e2 := flat_erase (newB b) hi
    rw [new_3 (c := (3, y.mark)) rfl (barAt_self hb.2.2 hy), List.length_singleton] at e2
    have e3 := (reach_perm ha hb).length_eq
    rw [← apply_reach ha hb] at e3
    unfold applyP at e3 ⊢
    rw [List.length_append] at e3 ⊢
    have e4 : a.flatMap (keepP b (cmpP a b)) = a.flatMap (fun x => (barAt b x.mark).toList) := flat_congr fun x hx => keep_own ha hb hx (ofK_own ha hx)
    rw [e4] at e3
    rw [e1]; omega
  have h3 : (applyP a b ((cmpP a b).eraseIdx i)).length ≤ 60 := by have := hb.1; omega
  refine ⟨?_, (if_pos h1).trans ((if_pos h2).trans (if_pos h3))⟩
  rw [show appV a b ((cmpP a b).eraseIdx i) = applyP a b ((cmpP a b).eraseIdx i) from (if_pos h1).trans ((if_pos h2).trans (if_pos h3))]
  exact hlen

end Go.Proofs.YtccddakkegelkaaGreatDoor
namespace Go.Proofs.YtccddakkegelkaaGreatDoor
open Go Go.AM
set_option linter.unusedSimpArgs false
set_option linter.unusedVariables false
set_option maxRecDepth 100000
set_option maxHeartbeats 1000000

/-- The kind of a mark's change, from its lines. -/
def kd : Option Bar → Option Bar → Int
  | none, none => 0
  | none, some _ => 3
  | some _, none => 4
  | some x, some y => if sameD x y ∧ x.count = y.count then 1 else 2
theorem kd_eq {a b : List Bar} (mk : List UInt8) : ofK (cmpP a b) mk = kd (barAt a mk) (barAt b mk) := by
  rw [cmpP, ofK_cmp]
  cases hx : barAt a mk with
  | some x =>
    have hm := (barAt_memB hx).2
    show kindOf b x = _
    cases hy : barAt b mk with
    | some y => rw [kind_some (y := y) (by rw [hm]; exact hy)]; rfl
    | none => rw [kind_none (by rw [hm]; exact hy)]; rfl
  | none =>
    show ofK ((b.filter (newP a)).map addK) mk = _
    cases hy : barAt b mk with
    | some y =>
      obtain ⟨h1, h2⟩ := barAt_memB hy
      subst h2
      exact ofK_add (List.mem_filter.2 ⟨h1, (newP_iff a y).2 hx⟩)
    | none =>
      refine ofK_zero fun c hc e => ?_
      obtain ⟨y, hy2, rfl⟩ := List.mem_map.1 hc
      have := List.find?_eq_none.1 hy y (List.mem_filter.1 hy2).1
      rw [decide_eq_true_eq] at this
      exact this e
def joinM (f l : Int) : Int := if f = 0 then (if l = 0 then 0 else joinK 0 l) else joinK f l
theorem same_trans {x y z : Bar} (h1 : sameD x y ∧ x.count = y.count) (h2 : sameD y z ∧ y.count = z.count) : sameD x z ∧ x.count = z.count :=
  ⟨⟨h1.1.1.trans h2.1.1, h1.1.2.1.trans h2.1.2.1, h1.1.2.2.trans h2.1.2.2⟩, h1.2.trans h2.2⟩
theorem join_kd (x y z : Option Bar) : 0 ≤ joinM (kd x y) (kd y z) ∧ (joinM (kd x y) (kd y z) = kd x z ∨ (joinM (kd x y) (kd y z) = 2 ∧ kd x z = 1)) := by
  rcases x with _ | x <;> rcases y with _ | y <;> rcases z with _ | z <;> simp only [kd] <;> (repeat' split) <;> first
    | decide
    | exact absurd (same_trans (x := x) (y := y) (z := z) ‹_› ‹_›) ‹_›
theorem kd_bd (x y : Option Bar) : 0 ≤ kd x y ∧ kd x y ≤ 4 := by
  rcases x with _ | x <;> rcases y with _ | y <;> simp only [kd] <;> (try split) <;> decide
theorem ofK_of : ∀ {l : List Chg} {c : Chg}, l.Pairwise (fun a b => a.2 ≠ b.2) → c ∈ l → ofK l c.2 = c.1
  | d :: l, c, h, hc => by
    rw [List.pairwise_cons] at h
    rw [ofK]
    rcases List.mem_cons.1 hc with rfl | hc
    · rw [if_pos rfl]
    · rw [if_neg (h.1 c hc)]
      exact ofK_of h.2 hc
theorem mem_join {l m : List Chg} (hl : okChgs l) (hm : okChgs m) (k : Int) (mk : List UInt8) : (k, mk) ∈ joinP l m ↔ 0 < k ∧ k = joinM (ofK l mk) (ofK m mk) := by
  unfold joinP
  rw [List.mem_append, List.mem_flatMap, List.mem_flatMap]
  constructor
  · rintro (⟨c, hc, h⟩ | ⟨c, hc, h⟩)
    · by_cases hk : 0 < joinK c.1 (ofK m c.2)
      · rw [joinF_pos hk, List.mem_singleton] at h
        obtain ⟨rfl, rfl⟩ := Prod.mk.inj h
        have h1 := ofK_of hl.2.2 hc
        have h2 := (hl.2.1 c hc).1
        refine ⟨hk, ?_⟩
        rw [joinM, h1, if_neg (by omega)]
      · rw [joinF_neg (by omega)] at h; cases h
    · by_cases hk : ofK l c.2 = 0 ∧ 0 < joinK 0 c.1
      · rw [joinG_pos hk.1 hk.2, List.mem_singleton] at h
        obtain ⟨rfl, rfl⟩ := Prod.mk.inj h
        have h1 := ofK_of hm.2.2 hc
        have h2 := (hm.2.1 c hc).1
        refine ⟨hk.2, ?_⟩
        rw [joinM, hk.1, if_pos rfl, h1, if_neg (by omega)]
      · rw [joinG, if_neg hk] at h; cases h
  · rintro ⟨hk, e⟩
    by_cases h0 : ofK l mk = 0
    · rw [joinM, if_pos h0] at e
      by_cases h1 : ofK m mk = 0
      · rw [if_pos h1] at e; omega
      · rw [if_neg h1] at e
        refine .inr ⟨(ofK m mk, mk), ofK_mem h1, ?_⟩
        rw [joinG_pos (c := (ofK m mk, mk)) h0 (by simp only; omega), List.mem_singleton]
        subst e; rfl
    · rw [joinM, if_neg h0] at e
      refine .inl ⟨(ofK l mk, mk), ofK_mem h0, ?_⟩
      rw [joinF_pos (c := (ofK l mk, mk)) (by simp only; omega), List.mem_singleton]
      subst e; rfl
theorem flat_pw {U : Type} {g : U → List UInt8} {f : Chg → List U} (hf : ∀ c, ∀ u ∈ f c, g u = c.2) (h1 : ∀ c, (f c).length ≤ 1) : ∀ {l : List Chg}, l.Pairwise (fun a b => a.2 ≠ b.2) → (l.flatMap f).Pairwise fun a b => g a ≠ g b
  | [], _ => by simp
  | c :: l, h => by
    rw [List.pairwise_cons] at h
    rw [List.flatMap_cons, List.pairwise_append]
    refine ⟨?_, flat_pw hf h1 h.2, fun x hx y hy => ?_⟩
    · have := h1 c
      rcases hfc : f c with _ | ⟨u, _ | ⟨v, r⟩⟩
      · simp
      · simp
      · rw [hfc] at this; simp at this
    · obtain ⟨d, hd, hy⟩ := List.mem_flatMap.1 hy
      rw [hf c x hx, hf d y hy]
      exact h.1 d hd
theorem joinF_mark {m : List Chg} : ∀ c, ∀ u ∈ joinF m c, u.2 = c.2 := by
  intro c u hu
  unfold joinF at hu
  split at hu
  · rw [List.mem_singleton.1 hu]
  · cases hu
theorem joinG_mark {l : List Chg} : ∀ c, ∀ u ∈ joinG l c, u.2 = c.2 ∧ ofK l c.2 = 0 := by
  intro c u hu
  unfold joinG at hu
  split at hu
  · rename_i h
    rw [List.mem_singleton.1 hu]
    exact ⟨rfl, h.1⟩
  · cases hu
theorem join_pw {l m : List Chg} (hl : okChgs l) (hm : okChgs m) : (joinP l m).Pairwise fun a b => a.2 ≠ b.2 := by
  unfold joinP
  rw [List.pairwise_append]
  refine ⟨flat_pw (g := Prod.snd) joinF_mark (joinF_len m) hl.2.2, flat_pw (g := Prod.snd) (fun c u hu => (joinG_mark c u hu).1) (joinG_len l) hm.2.2, fun x hx y hy => ?_⟩
  obtain ⟨c, hc, hx⟩ := List.mem_flatMap.1 hx
  obtain ⟨d, hd, hy⟩ := List.mem_flatMap.1 hy
  obtain ⟨h1, h2⟩ := joinG_mark d y hy
  have h3 := ofK_of hl.2.2 hc
  have h4 := (hl.2.1 c hc).1
  rw [joinF_mark c x hx, h1]
  intro e
  rw [← e] at h2
  omega
theorem ofK_name {l : List Chg} (hl : okChgs l) {mk : List UInt8} (h : ofK l mk ≠ 0) : IsName mk := (hl.2.1 _ (ofK_mem h)).2.2
theorem mem_marks {l : List Chg} (hl : okChgs l) (mk : List UInt8) : mk ∈ l.map Prod.snd ↔ ofK l mk ≠ 0 := by
  constructor
  · intro h
    obtain ⟨c, hc, rfl⟩ := List.mem_map.1 h
    have h1 := ofK_of hl.2.2 hc
    have h2 := (hl.2.1 c hc).1
    omega
  · intro h
    exact List.mem_map.2 ⟨_, ofK_mem h, rfl⟩
theorem ofK_join {l m : List Chg} (hl : okChgs l) (hm : okChgs m) (mk : List UInt8) (h0 : 0 ≤ joinM (ofK l mk) (ofK m mk)) : ofK (joinP l m) mk = joinM (ofK l mk) (ofK m mk) := by
  by_cases h : joinM (ofK l mk) (ofK m mk) = 0
  · rw [h]
    by_cases h1 : ofK (joinP l m) mk = 0
    · exact h1
    · have := (mem_join hl hm _ _).1 (ofK_mem h1)
      omega
  · exact ofK_of (join_pw hl hm) ((mem_join hl hm (joinM (ofK l mk) (ofK m mk)) mk).2 ⟨by omega, rfl⟩)
/-- What the joined changes tell, against those from the first schedule to the last one. -/
structure Thru (a c : List Bar) (j : List Chg) : Prop where
  ok : okChgs j
  len : j.length = (cmpP a c).length
  kind : ∀ mk, ofK j mk = kd (barAt a mk) (barAt c mk) ∨ (ofK j mk = 2 ∧ kd (barAt a mk) (barAt c mk) = 1)
theorem thru_of {a b c : List Bar} (ha : okSched a) (hb : okSched b) (hc : okSched c) : Thru a c (joinP (cmpP a b) (cmpP b c)) ∧ okJ (cmpP a b) (cmpP b c) := by
  have hl := cmp_okChgs ha hb
  have hm := cmp_okChgs hb hc
  have hn := cmp_okChgs ha hc
  have hk : ∀ mk, ofK (joinP (cmpP a b) (cmpP b c)) mk = joinM (kd (barAt a mk) (barAt b mk)) (kd (barAt b mk) (barAt c mk)) := fun mk => by
    have h1 := join_kd (barAt a mk) (barAt b mk) (barAt c mk)
    rw [ofK_join hl hm mk (by rw [kd_eq, kd_eq]; exact h1.1), kd_eq, kd_eq]
  have hkind : ∀ mk, ofK (joinP (cmpP a b) (cmpP b c)) mk = kd (barAt a mk) (barAt c mk) ∨ (ofK (joinP (cmpP a b) (cmpP b c)) mk = 2 ∧ kd (barAt a mk) (barAt c mk) = 1) := fun mk => by
    rw [hk]; exact (join_kd _ _ _).2
  have hperm : ((joinP (cmpP a b) (cmpP b c)).map Prod.snd).Perm ((cmpP a c).map Prod.snd) := by
    refine (List.perm_ext_iff_of_nodup (List.pairwise_map.2 (join_pw hl hm)) (List.pairwise_map.2 hn.2.2)).2 fun mk => ?_
    rw [mem_marks hn, kd_eq]
    have h1 := hkind mk
    have h2 := kd_bd (barAt a mk) (barAt c mk)
    constructor
    · intro h
      obtain ⟨d, hd, rfl⟩ := List.mem_map.1 h
      have h3 := (mem_join hl hm d.1 d.2).1 hd
      have h4 := ofK_of (join_pw hl hm) hd
      omega
    · intro h
      exact List.mem_map.2 ⟨_, ofK_mem (l := joinP (cmpP a b) (cmpP b c)) (mk := mk) (by omega), rfl⟩
  have hlen : (joinP (cmpP a b) (cmpP b c)).length = (cmpP a c).length := by have := hperm.length_eq; simpa using this
  refine ⟨⟨⟨by rw [hlen]; exact hn.1, fun d hd => ?_, join_pw hl hm⟩, hlen, hkind⟩, fun d hd => ?_, fun d hd h0 => ?_⟩
  · have h3 := (mem_join hl hm d.1 d.2).1 hd
    have h4 := ofK_of (join_pw hl hm) hd
    have h5 := hkind d.2
    have h6 := kd_bd (barAt a d.2) (barAt c d.2)
    refine ⟨by omega, by omega, ?_⟩
    exact ofK_name hn (by rw [kd_eq]; omega)
  · have h1 := ofK_of hl.2.2 hd
    have h2 := (hl.2.1 d hd).1
    have h3 := (join_kd (barAt a d.2) (barAt b d.2) (barAt c d.2)).1
    rw [← kd_eq, ← kd_eq, h1, joinM, if_neg (by omega)] at h3
    exact h3
  · have h1 := ofK_of hm.2.2 hd
    have h2 := (hm.2.1 d hd).1
    have h3 := (join_kd (barAt a d.2) (barAt b d.2) (barAt c d.2)).1
    rw [← kd_eq, ← kd_eq, h1, h0, joinM, if_pos rfl, if_neg (by omega)] at h3
    exact h3
theorem thru_join {a b c : List Bar} (ha : okSched a) (hb : okSched b) (hc : okSched c) : Thru a c (joinV (cmpP a b) (cmpP b c)) ∧ joinE (cmpP a b) (cmpP b c) = 0 := by
  obtain ⟨h, hJ⟩ := thru_of ha hb hc
  have h2 : ok2 (cmpP a b) (cmpP b c) := ⟨cmp_okChgs ha hb, cmp_okChgs hb hc⟩
  exact ⟨(show joinV (cmpP a b) (cmpP b c) = joinP (cmpP a b) (cmpP b c) from (if_pos h2).trans ((if_pos hJ).trans (if_pos h.ok.1))) ▸ h, (if_pos h2).trans ((if_pos hJ).trans (if_pos h.ok.1))⟩
theorem mark_some {a : List Bar} {mk : List UInt8} {x : Bar} (h : barAt a mk = some x) : 0 ≤ markI a mk := by
  obtain ⟨h1, h2⟩ := barAt_memB h
  exact (idxP_nonneg _ _ 0 (Int.le_refl _)).2 ⟨x, h1, by simp [h2]⟩
theorem mark_none {a : List Bar} {mk : List UInt8} (h : barAt a mk = none) : markI a mk < 0 := by
  rcases Int.lt_or_le (markI a mk) 0 with h1 | h1
  · exact h1
  · obtain ⟨x, hx, e⟩ := (idxP_nonneg _ _ 0 (Int.le_refl _)).1 h1
    exact absurd e (List.find?_eq_none.1 h x hx)
theorem kd_three {x y : Option Bar} (h : kd x y = 3) : x = none ∧ ∃ z, y = some z := by
  rcases x with _ | x <;> rcases y with _ | y <;> simp only [kd] at h
  · omega
  · exact ⟨rfl, y, rfl⟩
  · omega
  · split at h <;> omega
theorem thru_fits {a c : List Bar} {j : List Chg} (ha : okSched a) (hj : Thru a c j) : fitsP a c j := by
  refine ⟨fun d hd => ?_, fun x hx h0 => ?_⟩
  · have h1 := ofK_of hj.ok.2.2 hd
    have h2 := hj.kind d.2
    rw [h1] at h2
    refine ⟨fun h => ?_, fun h => ?_, fun h => ?_⟩
    · cases hx : barAt a d.2 with
      | some x => exact mark_some hx
      | none => rw [hx] at h2; cases hy : barAt c d.2 <;> rw [hy] at h2 <;> simp only [kd] at h2 <;> omega
    · cases hx : barAt a d.2 with
      | some x =>
        refine ⟨mark_some hx, ?_⟩
        cases hy : barAt c d.2 with
        | some y => exact mark_some hy
        | none => rw [hx, hy] at h2; simp only [kd] at h2; omega
      | none => rw [hx] at h2; cases hy : barAt c d.2 <;> rw [hy] at h2 <;> simp only [kd] at h2 <;> omega
    · obtain ⟨h3, y, h4⟩ := kd_three (x := barAt a d.2) (y := barAt c d.2) (by omega)
      exact ⟨mark_none h3, mark_some h4⟩
  · have h2 := hj.kind x.mark
    rw [h0, barAt_self ha.2.2 hx] at h2
    cases hy : barAt c x.mark with
    | none => rw [hy] at h2; simp only [kd] at h2; omega
    | some y =>
      rw [hy] at h2; simp only [kd] at h2
      split at h2 <;> omega
theorem thru_keep {a c : List Bar} {j : List Chg} (ha : okSched a) (hj : Thru a c j) {x : Bar} (hx : x ∈ a) : keepP c j x = (barAt c x.mark).toList := by
  have h2 := hj.kind x.mark
  rw [barAt_self ha.2.2 hx] at h2
  cases hy : barAt c x.mark with
  | none =>
    rw [hy] at h2; simp only [kd] at h2
    rw [keep_0 (by omega) (by omega)]; rfl
  | some y =>
    rw [hy] at h2; simp only [kd] at h2
    split at h2
    · rename_i hs
      rcases h2 with h2 | ⟨h2, _⟩
      · rw [keep_1 h2, bar_ext (barAt_memB hy).2.symm hs.1 hs.2]; rfl
      · rw [keep_2 h2 hy]; rfl
    · rw [keep_2 (by omega) hy]; rfl
theorem newB_mark {c : List Bar} : ∀ d : Chg, ∀ z ∈ newB c d, z.mark = d.2 ∧ d.1 = 3 ∧ z ∈ c := by
  intro d z hz
  unfold newB at hz
  split at hz
  · rename_i h
    rw [Option.mem_toList] at hz
    obtain ⟨h1, h2⟩ := barAt_memB hz
    exact ⟨h2, h, h1⟩
  · cases hz
theorem newB_len (c : List Bar) (d : Chg) : (newB c d).length ≤ 1 := by
  unfold newB
  split
  · exact opt_len _
  · simp
theorem thru_new {a c : List Bar} {j : List Chg} (hc : okSched c) (hj : Thru a c j) : (j.flatMap (newB c)).Perm (c.filter (newP a)) := by
  refine (List.perm_ext_iff_of_nodup (nodup_marks (flat_pw (g := Bar.mark) (fun d z hz => (newB_mark d z hz).1) (newB_len c) hj.ok.2.2)) (nodup_marks (hc.2.2.sublist List.filter_sublist))).2 fun z => ?_
  rw [List.mem_flatMap, List.mem_filter]
  constructor
  · rintro ⟨d, hd, hz⟩
    obtain ⟨h1, h2, h3⟩ := newB_mark d z hz
    have h4 := ofK_of hj.ok.2.2 hd
    have h5 := hj.kind d.2
    obtain ⟨h6, _⟩ := kd_three (x := barAt a d.2) (y := barAt c d.2) (by omega)
    exact ⟨h3, (newP_iff a z).2 (by rw [h1]; exact h6)⟩
  · rintro ⟨hz, hn⟩
    have h1 := (newP_iff a z).1 hn
    have h2 := barAt_self hc.2.2 hz
    have h3 := hj.kind z.mark
    rw [h1, h2] at h3
    simp only [kd] at h3
    have h4 : ofK j z.mark = 3 := by omega
    exact ⟨(ofK j z.mark, z.mark), ofK_mem (by omega), by rw [new_3 (c := (ofK j z.mark, z.mark)) h4 h2]; simp⟩
theorem thru_perm {a c : List Bar} {j : List Chg} (ha : okSched a) (hc : okSched c) (hj : Thru a c j) : (applyP a c j).Perm c := by
  refine List.Perm.trans ?_ (reach_perm ha hc)
  unfold applyP reachP
  rw [flat_congr fun x hx => thru_keep ha hj hx]
  exact (thru_new hc hj).append_left _
theorem thru_apply {a c : List Bar} {j : List Chg} (ha : okSched a) (hc : okSched c) (hj : Thru a c j) : (appV a c j).Perm c ∧ appE a c j = 0 := by
  have h1 : okApply a c j := ⟨⟨ha, hc⟩, hj.ok⟩
  have h2 := thru_fits ha hj
  have hp := thru_perm ha hc hj
  have h3 : (applyP a c j).length ≤ 60 := by rw [hp.length_eq]; exact hc.1
  exact ⟨(show appV a c j = applyP a c j from (if_pos h1).trans ((if_pos h2).trans (if_pos h3))) ▸ hp, (if_pos h1).trans ((if_pos h2).trans (if_pos h3))⟩
theorem thru_kind {a c : List Bar} {j : List Chg} (ha : okSched a) (hc : okSched c) (hj : Thru a c j) {x : Chg} (hx : x ∈ cmpP a c) : 0 ≤ chgI j x.2 ∧ j[(chgI j x.2).toNat]? = some (ofK j x.2, x.2) ∧ (ofK j x.2 = x.1 ∨ (ofK j x.2 = 2 ∧ x.1 = 1)) := by
  have hn := cmp_okChgs ha hc
  have h1 := ofK_of hn.2.2 hx
  have h2 := (hn.2.1 x hx).1
  have h3 := hj.kind x.2
  rw [← kd_eq, h1] at h3
  have h4 : 0 ≤ chgI j x.2 := by
    rcases Int.lt_or_le (chgI j x.2) 0 with h | h
    · have := ofK_none j 0 (Int.le_refl _) h
      omega
    · exact h
  obtain ⟨_, h5⟩ := ofK_some (mk := x.2) j 0 (Int.le_refl _) h4
  rw [Int.sub_zero] at h5
  exact ⟨h4, h5, h3⟩

end Go.Proofs.YtccddakkegelkaaGreatDoor
