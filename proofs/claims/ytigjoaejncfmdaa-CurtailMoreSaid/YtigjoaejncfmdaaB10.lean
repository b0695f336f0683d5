/-
  Levels: what they cover.
  Conditions: none.
-/
import Derived.Test.YtigjoaejncfmdaaB9
namespace Go.Proofs.Ytigjoaejncfmdaa
open Go Go.AM
set_option linter.unusedSimpArgs false
set_option linter.unusedVariables false
set_option maxRecDepth 100000

/-- A place is in one of the spans. -/
def cov (l : List (Int × Int)) (y : Int) : Prop := ∃ s ∈ l, s.1 ≤ y ∧ y < s.2
theorem cov_app {l m : List (Int × Int)} {y : Int} : cov (l ++ m) y ↔ cov l y ∨ cov m y := by
  simp only [cov, List.mem_append]
  constructor
  · rintro ⟨s, h | h, h1⟩
    · exact .inl ⟨s, h, h1⟩
    · exact .inr ⟨s, h, h1⟩
  · rintro (⟨s, h, h1⟩ | ⟨s, h, h1⟩)
    · exact ⟨s, .inl h, h1⟩
    · exact ⟨s, .inr h, h1⟩
theorem cov_one {s : Int × Int} {y : Int} : cov [s] y ↔ s.1 ≤ y ∧ y < s.2 := by simp [cov]
theorem levAdd_cov {acc : List (Int × Int)} {lo hi y : Int} (h : Asc acc) (hlt : lo < hi) : cov (levAdd acc lo hi) y ↔ cov acc y ∨ (lo ≤ y ∧ y < hi) := by
  unfold levAdd
  cases ho : acc.getLast? with
  | none => simp only; rw [cov_app, cov_one]
  | some o =>
    simp only
    split
    · rename_i e
      have hne : acc ≠ [] := by intro e; rw [e] at ho; cases ho
      have hacc : acc = acc.dropLast ++ [o] := by
        have := List.dropLast_concat_getLast hne
        rw [List.getLast?_eq_some_getLast hne] at ho
        simp only [Option.some.injEq] at ho
        rw [ho] at this
        exact this.symm
      have h2 := h.2 o (List.mem_of_getLast? ho)
      have e2 : cov acc y ↔ (cov acc.dropLast y ∨ (o.1 ≤ y ∧ y < o.2)) := by rw [← cov_one, ← cov_app, ← hacc]
      rw [cov_app, cov_one, e2]
      simp only
      constructor
      · rintro (h | h)
        · exact .inl (.inl h)
        · by_cases hy : y < o.2
          · exact .inl (.inr ⟨h.1, hy⟩)
          · exact .inr ⟨by omega, h.2⟩
      · rintro ((h | h) | h)
        · exact .inl h
        · exact .inr ⟨h.1, by omega⟩
        · exact .inr ⟨by omega, h.2⟩
    · rw [cov_app, cov_one]
theorem atF_low {y v : Int} : ∀ {l : List (Int × Int)}, (∀ s ∈ l, y < s.1) → atF v l y = v
  | [], _ => rfl
  | s :: l, h => by
    have := h s (by simp)
    rw [atF, if_neg (by omega)]
    exact atF_low (fun s hs => h s (by simp [hs]))
theorem atF_up {y v w : Int} {s : Int × Int} {l : List (Int × Int)} (h : s.1 ≤ y) : atF v (s :: l) y = atF w (s :: l) y := by
  rw [atF, atF, if_pos h, if_pos h]
theorem levGo_cov {v y : Int} (hv : 0 ≤ v) : ∀ (l acc : List (Int × Int)) (p : Option (Int × Int)), okL p l → lastOK l → Asc acc → (∀ o x, acc.getLast? = some o → l.head? = some x → o.2 ≤ x.1) →
    (cov (levGo v l acc) y ↔ cov acc y ∨ v < atF 0 l y)
  | [], acc, _, _, _, _, _ => by
    have : ¬ v < 0 := by omega
    simp [levGo, atF, this]
  | [s], acc, _, _, hl, _, _ => by
    have e : s.2 = 0 := hl s rfl
    have : ¬ v < 0 := by omega
    simp [levGo, atF, e, this]
  | s :: n :: l, acc, p, hk, hl, h, hb => by
    obtain ⟨k1, k2⟩ := hk
    have hlt : s.1 < n.1 := k2.1.2.2.2 s rfl
    have hl' : lastOK (n :: l) := fun q hq => hl q (by rw [List.getLast?_cons_cons]; exact hq)
    have hlow : ∀ {w}, y < n.1 → atF w (n :: l) y = w := fun hy => atF_low (fun x hx => by
      rcases List.mem_cons.1 hx with rfl | hx
      · exact hy
      · have := okL_head k2.2 n rfl x hx; omega)
    have hat : v < atF 0 (s :: n :: l) y ↔ (s.1 ≤ y ∧ y < n.1 ∧ v < s.2) ∨ v < atF 0 (n :: l) y := by
      rw [atF]
      by_cases hy : y < n.1
      · rw [hlow hy, hlow hy]
        split <;> omega
      · rw [atF_up (w := 0) (by omega)]
        omega
    rw [levGo, hat]
    split
    · rename_i h2
      rw [levGo_cov hv (n :: l) acc _ k2 hl' h (fun o x ho hx => by
        simp at hx; subst hx
        have := hb o s ho rfl
        omega)]
      constructor
      · rintro (h | h)
        · exact .inl h
        · exact .inr (.inr h)
      · rintro (h | h | h)
        · exact .inl h
        · omega
        · exact .inr h
    · obtain ⟨g1, g2⟩ := levAdd_asc (hi := n.1) h (fun o ho => hb o s ho rfl) hlt
      rw [levGo_cov hv (n :: l) _ _ k2 hl' g1 (fun o x ho hx => by
        simp at hx; subst hx
        exact g2 o ho), levAdd_cov h hlt, or_assoc]
      constructor
      · rintro (h | h | h)
        · exact .inl h
        · exact .inr (.inl ⟨h.1, h.2, by omega⟩)
        · exact .inr (.inr h)
      · rintro (h | h | h)
        · exact .inl h
        · exact .inr (.inl ⟨h.1, h.2.1⟩)
        · exact .inr (.inr h)
theorem spans_cov {l : List (Int × Int)} {v y : Int} (hv : 0 ≤ v) (hs2 : okL none l) (hlast : lastOK l) : cov (levGo v l []) y ↔ v < atF 0 l y := by
  rw [levGo_cov hv l [] none hs2 hlast ⟨by simp, fun s hs => by simp at hs⟩ (fun o x h => by cases h)]
  simp [cov]
theorem levAdd_ne_nil (acc : List (Int × Int)) (lo hi : Int) : levAdd acc lo hi ≠ [] := by
  unfold levAdd
  split
  · split <;> simp
  · simp
theorem levGo_nil {v : Int} (hv : 0 ≤ v) : ∀ (l acc : List (Int × Int)), lastOK l → (levGo v l acc = [] ↔ acc = [] ∧ ∀ s ∈ l, s.2 ≤ v)
  | [], acc, _ => by simp [levGo]
  | [s], acc, hl => by
    have e : s.2 = 0 := hl s rfl
    simp [levGo, e, hv]
  | s :: n :: l, acc, hl => by
    have hl' : lastOK (n :: l) := fun q hq => hl q (by rw [List.getLast?_cons_cons]; exact hq)
    rw [levGo, levGo_nil hv (n :: l) _ hl']
    split
    · rename_i h
      simp only [List.mem_cons] 
      constructor
      · rintro ⟨h1, h2⟩
        refine ⟨h1, fun x hx => ?_⟩
        rcases hx with rfl | hx
        · exact h
        · exact h2 x hx
      · rintro ⟨h1, h2⟩
        exact ⟨h1, fun x hx => h2 x (.inr hx)⟩
    · rename_i h
      constructor
      · rintro ⟨h1, _⟩
        exact absurd h1 (levAdd_ne_nil _ _ _)
      · rintro ⟨_, h2⟩
        exact absurd (h2 s (by simp)) h
theorem most_le (v : Int) : ∀ (l : List (Int × Int)) (m : Int), most l m ≤ v ↔ m ≤ v ∧ ∀ s ∈ l, s.2 ≤ v
  | [], m => by simp [most]
  | s :: l, m => by
    rw [most, most_le v l]
    simp only [List.mem_cons, forall_eq_or_imp]
    constructor
    · rintro ⟨h1, h2⟩; exact ⟨by omega, by omega, h2⟩
    · rintro ⟨h1, h2, h3⟩; exact ⟨by omega, h3⟩
theorem spans_some {l : List (Int × Int)} {v : Int} (hv : 0 ≤ v) (hlast : lastOK l) : 0 < (levGo v l []).length ↔ v < most l 0 := by
  have h1 := levGo_nil hv l [] hlast
  have h2 := most_le v l 0
  rw [List.length_pos_iff]
  constructor
  · intro h
    rcases Int.lt_or_le v (most l 0) with h3 | h3
    · exact h3
    · exact absurd (h1.2 ⟨rfl, (h2.1 h3).2⟩) h
  · intro h h3
    have := h2.2 ⟨hv, (h1.1 h3).2⟩
    omega
theorem least_k {l : List (Int × Int)} {d k : Int} (ha : 1 ≤ areaOf d) : k ≤ leastN l d ↔ (k - 1) * areaOf d < most l 0 := by
  rw [leastN, Int.le_ediv_iff_mul_le (by omega), Int.sub_mul]
  omega
end Go.Proofs.Ytigjoaejncfmdaa
