/-
  ref28.Cover.
  Conditions: none.
-/
import Derived.Test.YtigjoaejncfmdaaB6
namespace Go.Proofs.Ytigjoaejncfmdaa
open Go Go.AM
set_option linter.unusedSimpArgs false
set_option linter.unusedVariables false
set_option maxRecDepth 100000

def rjAdd (acc : List (Int × Int)) (s : Int × Int) : List (Int × Int) :=
  match acc.getLast? with
  | some o => if s.1 ≤ o.2 then acc.set (acc.length - 1) (o.1, s.2) else acc ++ [s]
  | none => acc ++ [s]
def rjL (a : Int) (l : List (Int × Int)) : List (Int × Int) := (l.map (shiftS a)).foldl rjAdd []
theorem rjL_snoc (a : Int) (l : List (Int × Int)) (s : Int × Int) : rjL a (l ++ [s]) = rjAdd (rjL a l) (shiftS a s) := by simp [rjL]
theorem rjAdd_len (acc : List (Int × Int)) (s : Int × Int) : (rjAdd acc s).length ≤ acc.length + 1 ∧ 0 < (rjAdd acc s).length := by
  unfold rjAdd
  split
  · rename_i o ho
    have : 0 < acc.length := by
      rcases Nat.eq_zero_or_pos acc.length with h0 | h0
      · rw [List.eq_nil_of_length_eq_zero h0] at ho; cases ho
      · exact h0
    split <;> simp <;> omega
  · simp
theorem foldl_snoc_ind {P : List (Int × Int) → Prop} (h0 : P []) (hs : ∀ l s, P l → P (l ++ [s])) : ∀ l, P l := by
  intro l
  have : ∀ n, ∀ l : List (Int × Int), l.length = n → P l := by
    intro n
    induction n with
    | zero => intro l h; rw [List.eq_nil_of_length_eq_zero h]; exact h0
    | succ n ih =>
      intro l h
      have hne : l ≠ [] := by intro e; subst e; simp at h
      rw [← List.dropLast_concat_getLast hne]
      exact hs _ _ (ih _ (by simp [h]))
  exact this _ l rfl
theorem rjL_len (a : Int) : ∀ l : List (Int × Int), (rjL a l).length ≤ l.length ∧ (0 < l.length → 0 < (rjL a l).length) := by
  refine foldl_snoc_ind ⟨Nat.zero_le _, fun h => absurd h (by simp)⟩ ?_
  intro l s ih
  have := rjAdd_len (rjL a l) (shiftS a s)
  rw [rjL_snoc, List.length_append]
  simp only [List.length_cons, List.length_nil]
  omega
/-- Spans that ascend and do not touch. -/
def Asc (l : List (Int × Int)) : Prop := l.Pairwise (fun p q => p.2 < q.1) ∧ ∀ s ∈ l, s.1 < s.2
theorem Asc.snoc {l : List (Int × Int)} {s : Int × Int} (h : Asc (l ++ [s])) : Asc l ∧ s.1 < s.2 ∧ ∀ q, l.getLast? = some q → q.2 < s.1 ∧ q.1 < q.2 := by
  obtain ⟨h1, h2⟩ := h
  rw [List.pairwise_append] at h1
  refine ⟨⟨h1.1, fun x hx => h2 x (by simp [hx])⟩, h2 s (by simp), fun q hq => ?_⟩
  have hm := List.mem_of_getLast? hq
  exact ⟨h1.2.2 q hm s (by simp), h2 q (by simp [hm])⟩
theorem join_asc (a : Int) (ha : 0 ≤ a) : ∀ l : List (Int × Int), Asc l → joinL (l.map (shiftS a)) = rjL a l ∧ ∀ o s, (rjL a l).getLast? = some o → l.getLast? = some s → o.2 = s.2 + a := by
  refine foldl_snoc_ind (fun _ => ⟨rfl, fun o s h => by cases h⟩) ?_
  intro l s ih hasc
  obtain ⟨h1, h2, h3⟩ := hasc.snoc
  obtain ⟨i1, i2⟩ := ih h1
  have e1 : joinL ((l ++ [s]).map (shiftS a)) = (joinSt (joinF (l.map (shiftS a))) (shiftS a s)).1 := by
    rw [List.map_append, joinL]
    exact congrArg _ (joinF_snoc _ _)
  have e0 : (joinF (l.map (shiftS a))).1 = rjL a l := i1
  have e2 : joinL ((l ++ [s]).map (shiftS a)) = rjL a (l ++ [s]) := by
    rw [e1, rjL_snoc, joinSt, rjAdd, e0]
    cases ho : (rjL a l).getLast? with
    | none => rfl
    | some o =>
      simp only
      split
      · have hl : ∃ q, l.getLast? = some q := by
          have hne : l ≠ [] := by intro e; subst e; cases ho
          exact ⟨_, List.getLast?_eq_some_getLast hne⟩
        obtain ⟨q, hq⟩ := hl
        have := i2 o q ho hq
        obtain ⟨g1, g2⟩ := h3 q hq
        have : max o.2 (shiftS a s).2 = (shiftS a s).2 := by
          have e : (shiftS a s).2 = s.2 + a := rfl
          rw [e]; omega
        simp only [this]
      · rfl
  refine ⟨e2, fun o q ho hq => ?_⟩
  rw [List.getLast?_append, List.getLast?_singleton, Option.some_or] at hq
  simp only [Option.some.injEq] at hq
  subst hq
  rw [rjL_snoc, rjAdd] at ho
  cases hb : (rjL a l).getLast? with
  | none =>
    rw [hb] at ho
    simp only [List.getLast?_append, List.getLast?_singleton, Option.some_or, Option.some.injEq] at ho
    rw [← ho]; rfl
  | some o' =>
    rw [hb] at ho
    simp only at ho
    split at ho
    · have hne : rjL a l ≠ [] := by intro e; rw [e] at hb; cases hb
      have hpos := List.length_pos_iff.2 hne
      rw [List.getLast?_eq_getElem?, List.length_set, List.getElem?_set_self (by omega)] at ho
      simp only [Option.some.injEq] at ho
      rw [← ho]; rfl
    · simp only [List.getLast?_append, List.getLast?_singleton, Option.some_or, Option.some.injEq] at ho
      rw [← ho]; rfl
theorem levAdd_asc {acc : List (Int × Int)} {lo hi : Int} (h : Asc acc) (h1 : ∀ o, acc.getLast? = some o → o.2 ≤ lo) (h2 : lo < hi) : Asc (levAdd acc lo hi) ∧ ∀ o, (levAdd acc lo hi).getLast? = some o → o.2 ≤ hi := by
  unfold levAdd
  cases ho : acc.getLast? with
  | none =>
    have : acc = [] := List.getLast?_eq_none_iff.1 ho
    subst this
    refine ⟨⟨by simp, fun s hs => by simp at hs; subst hs; exact h2⟩, fun o h => by simp at h; rw [← h]; exact Int.le_refl _⟩
  | some o =>
    have hne : acc ≠ [] := by intro e; rw [e] at ho; cases ho
    have hl := h1 o ho
    have hacc : acc = acc.dropLast ++ [o] := by
      have := List.dropLast_concat_getLast hne
      rw [List.getLast?_eq_some_getLast hne] at ho
      simp only [Option.some.injEq] at ho
      rw [ho] at this
      exact this.symm
    simp only
    split
    · rename_i e
      rw [hacc] at h
      obtain ⟨g1, g2⟩ := h
      rw [List.pairwise_append] at g1
      refine ⟨⟨List.pairwise_append.2 ⟨g1.1, by simp, fun x hx y hy => ?_⟩, fun s hs => ?_⟩, fun q hq => ?_⟩
      · simp at hy; subst hy; exact g1.2.2 x hx o (by simp)
      · rcases List.mem_append.1 hs with hs | hs
        · exact g2 s (by simp [hs])
        · simp at hs; subst hs
          have := g2 o (by simp)
          simp only; omega
      · simp only [List.getLast?_append, List.getLast?_singleton, Option.some_or, Option.some.injEq] at hq
        rw [← hq]; exact Int.le_refl _
    · rename_i e
      obtain ⟨g1, g2⟩ := h
      refine ⟨⟨List.pairwise_append.2 ⟨g1, by simp, fun x hx y hy => ?_⟩, fun s hs => ?_⟩, fun q hq => ?_⟩
      · simp at hy; subst hy
        rw [hacc] at hx
        rcases List.mem_append.1 hx with hx | hx
        · rw [hacc, List.pairwise_append] at g1
          have k1 := g1.2.2 x hx o (by simp)
          have k2 := g2 o (by rw [hacc]; simp)
          simp only; omega
        · simp at hx; subst hx; simp only; omega
      · rcases List.mem_append.1 hs with hs | hs
        · exact g2 s hs
        · simp at hs; subst hs; exact h2
      · simp only [List.getLast?_append, List.getLast?_singleton, Option.some_or, Option.some.injEq] at hq
        rw [← hq]; exact Int.le_refl _
theorem levGo_asc (v : Int) : ∀ (l acc : List (Int × Int)) (p : Option (Int × Int)), okL p l → Asc acc → (∀ o x, acc.getLast? = some o → l.head? = some x → o.2 ≤ x.1) → Asc (levGo v l acc)
  | [], acc, _, _, h, _ => by simpa [levGo] using h
  | [_], acc, _, _, h, _ => by simpa [levGo] using h
  | s :: n :: l, acc, p, hl, h, hb => by
    obtain ⟨k1, k2⟩ := hl
    have hlt : s.1 < n.1 := k2.1.2.2.2 s rfl
    rw [levGo]
    split
    · refine levGo_asc v (n :: l) acc _ k2 h (fun o x ho hx => ?_)
      simp at hx; subst hx
      have := hb o s ho rfl
      omega
    · obtain ⟨g1, g2⟩ := levAdd_asc (hi := n.1) h (fun o ho => hb o s ho rfl) hlt
      refine levGo_asc v (n :: l) _ _ k2 g1 (fun o x ho hx => ?_)
      simp at hx; subst hx
      exact g2 o ho
theorem spans_asc {l : List (Int × Int)} (hs2 : okL none l) (v : Int) : Asc (levGo v l []) := levGo_asc v l [] none hs2 ⟨by simp, fun s hs => by simp at hs⟩ (fun o x h => by cases h)
end Go.Proofs.Ytigjoaejncfmdaa
