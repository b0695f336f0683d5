/-
  Demands: their envelope.
  Conditions: none.
-/
import Derived.Test.YthiockdlhehhoaaDoorDm2
import Derived.Test.YthiockdlhehhoaaDoorAmComp
namespace Go.Proofs.YthiockdlhehhoaaDoor
open Go Go.AM
set_option linter.unusedSimpArgs false
set_option linter.unusedVariables false
set_option maxRecDepth 100000
set_option maxHeartbeats 1000000

/-- Where a function's values change. -/
def envL (f : Int → Int) : Int → List Int → List (Int × Int)
  | _, [] => []
  | v, x :: xs => (if f x = v then [] else [(x, f x)]) ++ envL f (f x) xs
def endF (f : Int → Int) : Int → List Int → Int
  | v, [] => v
  | _, x :: xs => endF f (f x) xs
theorem endF_snoc (f : Int → Int) (x : Int) : ∀ (l : List Int) (v : Int), endF f v (l ++ [x]) = f x
  | [], _ => rfl
  | y :: l, v => endF_snoc f x l (f y)
theorem envL_snoc (f : Int → Int) (x : Int) : ∀ (l : List Int) (v : Int), envL f v (l ++ [x]) = envL f v l ++ if f x = endF f v l then [] else [(x, f x)]
  | [], v => by
    show (if f x = v then [] else [(x, f x)]) ++ [] = [] ++ (if f x = v then [] else [(x, f x)])
    rw [List.append_nil, List.nil_append]
  | y :: l, v => by rw [List.cons_append, envL, envL, envL_snoc f x l (f y), endF, List.append_assoc]
theorem envL_len (f : Int → Int) : ∀ (l : List Int) (v : Int), (envL f v l).length ≤ l.length
  | [], v => Nat.le_refl _
  | y :: l, v => by
    have := envL_len f l (f y)
    rw [envL, List.length_append, List.length_cons]
    split <;> simp <;> omega
abbrev asc (l : List Int) : Prop := l.Pairwise fun a b => a < b
/-- Of a sorted list each element once. -/
theorem compact_asc {l : List Int} (h : l.Pairwise fun a b => a ≤ b) : asc (Go.Lib.compact l) ∧ ∀ x, x ∈ Go.Lib.compact l ↔ x ∈ l := by
  have key : ∀ m, m ≤ l.length → asc (Go.Lib.compactUpTo l.toArray m) ∧ (∀ x, x ∈ Go.Lib.compactUpTo l.toArray m ↔ x ∈ l.take m) := by
    intro m
    induction m with
    | zero => intro _; simp [Go.Lib.compactUpTo]
    | succ m ih =>
      intro hm
      obtain ⟨h1, h2⟩ := ih (by omega)
      have hml : m < l.length := by omega
      have hget : l.toArray[m]! = l[m] := by simp [hml]
      have htk : l.take (m + 1) = l.take m ++ [l[m]] := by rw [List.take_add_one, List.getElem?_eq_getElem hml]; rfl
      rw [Go.Lib.compactUpTo_succ, htk, hget]
      by_cases hk : Go.Lib.keeps l.toArray m = true
      · rw [if_pos hk]
        refine ⟨List.pairwise_append.2 ⟨h1, by simp, fun a ha b hb => ?_⟩, fun x => by rw [List.mem_append, List.mem_append, h2 x]⟩
        obtain rfl := List.mem_singleton.1 hb
        obtain ⟨i, hi, rfl⟩ := List.mem_iff_getElem.1 ((h2 a).1 ha)
        have hi2 : i < m := by simp at hi; omega
        rw [List.getElem_take]
        have hle : l[i] ≤ l[m - 1] := by
          by_cases e : i = m - 1
          · simp [e]
          · exact List.pairwise_iff_getElem.1 h i (m - 1) (by omega) (by omega) (by omega)
        have hle2 : l[m - 1] ≤ l[m] := List.pairwise_iff_getElem.1 h (m - 1) m (by omega) (by omega) (by omega)
        have hne : l[m - 1] ≠ l[m] := by
          simp only [Go.Lib.keeps, decide_eq_true_eq] at hk
          rcases hk with hk | hk
          · omega
          · rw [hget, show l.toArray[m - 1]! = l[m - 1] by simp [show m - 1 < l.length by omega]] at hk
            exact fun e => hk e.symm
        omega
      · rw [if_neg hk, List.append_nil]
        refine ⟨h1, fun x => ?_⟩
        rw [h2 x, List.mem_append, List.mem_singleton]
        constructor
        · exact .inl
        · rintro (h3 | rfl)
          · exact h3
          · simp only [Go.Lib.keeps, decide_eq_true_eq, not_or, Decidable.not_not] at hk
            obtain ⟨hm0, he⟩ := hk
            rw [hget, show l.toArray[m - 1]! = l[m - 1] by simp [show m - 1 < l.length by omega]] at he
            rw [he]
            exact List.mem_iff_getElem.2 ⟨m - 1, by simp; omega, by rw [List.getElem_take]⟩
  have := key l.length (Nat.le_refl _)
  rwa [List.take_length] at this
theorem compact_le (l : List Int) : (Go.Lib.compact l).length ≤ l.length := by
  have key : ∀ m, (Go.Lib.compactUpTo l.toArray m).length ≤ m := by
    intro m
    induction m with
    | zero => simp [Go.Lib.compactUpTo]
    | succ m ih =>
      rw [Go.Lib.compactUpTo_succ, List.length_append]
      split <;> simp <;> omega
  exact key l.length
theorem atF_or' (x : Int) : ∀ (l : List (Int × Int)) (v : Int), (∀ s ∈ l, x < s.1) → atF v l x = v
  | [], v, _ => rfl
  | s :: l, v, h => by
    rw [atF, if_neg (by have := h s (by simp); omega)]
    exact atF_or' x l v fun t ht => h t (by simp [ht])
/-- Between two places without a step a function does not change. -/
theorem atF_same {y x : Int} (hyx : y ≤ x) : ∀ (l : List (Int × Int)) (v : Int), (∀ s ∈ l, ¬ (y < s.1 ∧ s.1 ≤ x)) → atF v l x = atF v l y
  | [], v, _ => rfl
  | s :: l, v, h => by
    have h1 := h s (by simp)
    rw [atF, atF, atF_same hyx l _ fun t ht => h t (by simp [ht])]
    congr 1
    by_cases h2 : s.1 ≤ y
    · rw [if_pos h2, if_pos (by omega)]
    · rw [if_neg h2, if_neg (by omega)]
/-- The least of some numbers that is greater. -/
def nextF (x : Int) (fs : List Int) : Int × Bool := fs.foldl (fun q f => if f > x ∧ (q.2 = false ∨ f < q.1) then (f, true) else q) (0, false)
def hdI (l : List Int) : Int := match l with
  | [] => 0
  | x :: _ => x
def hdB (l : List Int) : Bool := match l with
  | [] => false
  | _ :: _ => true
def inL (l : List Dem) (z : Bx) : List Dem := l.filter fun d => decide (inB d.zone z)
theorem inL_snoc_t {l : List Dem} {z : Bx} {d : Dem} (h : inB d.zone z) : inL (l ++ [d]) z = inL l z ++ [d] := by simp [inL, h]
theorem inL_snoc_f {l : List Dem} {z : Bx} {d : Dem} (h : ¬ inB d.zone z) : inL (l ++ [d]) z = inL l z := by simp [inL, h]
theorem inL_len (l : List Dem) (z : Bx) : (inL l z).length ≤ l.length := List.length_filter_le _ _
def topL (m : List Dem) (x : Int) : Int := m.foldl (fun n d => max n (atF 0 d.steps x)) 0
theorem topL_snoc (m : List Dem) (d : Dem) (x : Int) : topL (m ++ [d]) x = max (topL m x) (atF 0 d.steps x) := by simp [topL]
def topV (l : List Dem) (z : Bx) (x : Int) : Int := topL (inL l z) x
theorem topL_bd (x : Int) : ∀ m : List Dem, (∀ d ∈ m, okDem d) → 0 ≤ topL m x ∧ topL m x ≤ 1099511627776 := by
  refine snoc_ind (fun _ => by simp [topL]) ?_
  intro m d ih h
  have h1 := ih fun b hb => h b (by simp [hb])
  have h2 := atF_bd (y := x) (l := d.steps) 0 (h d (by simp)).2.2.2.1 (by decide) (by decide)
  rw [topL_snoc]
  omega
theorem topL_same {x y : Int} : ∀ m : List Dem, (∀ d ∈ m, atF 0 d.steps x = atF 0 d.steps y) → topL m x = topL m y := by
  refine snoc_ind (fun _ => rfl) ?_
  intro m d ih h
  rw [topL_snoc, topL_snoc, ih fun b hb => h b (by simp [hb]), h d (by simp)]
theorem topL_zero {x : Int} : ∀ m : List Dem, (∀ d ∈ m, atF 0 d.steps x = 0) → topL m x = 0 := by
  refine snoc_ind (fun _ => rfl) ?_
  intro m d ih h
  rw [topL_snoc, ih fun b hb => h b (by simp [hb]), h d (by simp)]
  rfl
def froms (m : List Dem) : List Int := m.flatMap fun d => d.steps.map (·.1)
theorem froms_snoc (m : List Dem) (d : Dem) : froms (m ++ [d]) = froms m ++ d.steps.map (·.1) := by simp [froms]
theorem froms_len : ∀ m : List Dem, (∀ d ∈ m, okDem d) → (froms m).length ≤ 200 * m.length := by
  refine snoc_ind (fun _ => by simp [froms]) ?_
  intro m d ih h
  have h1 := ih fun b hb => h b (by simp [hb])
  have h2 := (h d (by simp)).2.2.1
  rw [froms_snoc, List.length_append, List.length_append, List.length_map, List.length_singleton, Nat.mul_add]
  omega
theorem mem_froms {m : List Dem} {x : Int} : x ∈ froms m ↔ ∃ d ∈ m, ∃ s ∈ d.steps, s.1 = x := by
  simp only [froms, List.mem_flatMap, List.mem_map]
def srt (l : List Int) : List Int := l.mergeSort fun x y => decide (x ≤ y)
theorem srt_mem (l : List Int) (x : Int) : x ∈ srt l ↔ x ∈ l := (List.mergeSort_perm l _).mem_iff
theorem srt_len (l : List Int) : (srt l).length = l.length := List.length_mergeSort l
theorem srt_le (l : List Int) : (srt l).Pairwise fun a b => a ≤ b := by
  have := List.pairwise_mergeSort (le := fun x y : Int => decide (x ≤ y)) (fun a b c h1 h2 => by simp at *; omega) (fun a b => by simp; omega) l
  exact this.imp fun h => by simpa using h
def plc (m : List Dem) : List Int := Go.Lib.compact (srt (froms m))
theorem plc_spec (m : List Dem) : asc (plc m) ∧ ∀ x, x ∈ plc m ↔ x ∈ froms m := by
  obtain ⟨h1, h2⟩ := compact_asc (srt_le (froms m))
  exact ⟨h1, fun x => (h2 x).trans (srt_mem _ x)⟩
theorem plc_len (m : List Dem) : (plc m).length ≤ (froms m).length := by
  have := compact_le (srt (froms m))
  rwa [srt_len] at this
theorem okTop {l : List Dem} {z : Bx} (h : okDems l) : ∀ d ∈ inL l z, okDem d := fun d hd => h.2.1 d (List.mem_filter.1 hd).1
def envR (l : List Dem) (z : Bx) : List (Int × Int) := envL (topV l z) 0 (plc (inL l z))
def envV (l : List Dem) (z : Bx) : List (Int × Int) := if (okDems l ∧ okBx z) ∧ (envR l z).length ≤ 200 then envR l z else []
def envE (l : List Dem) (z : Bx) : Int := if okDems l ∧ okBx z then (if (envR l z).length ≤ 200 then 0 else 4) else 1
theorem env_arg {l : List Dem} {z : Bx} (h : ¬ (okDems l ∧ okBx z)) : envV l z = [] ∧ envE l z = 1 := ⟨if_neg fun g => h g.1, if_neg h⟩
theorem env_full {l : List Dem} {z : Bx} (h : okDems l ∧ okBx z) (h2 : ¬ (envR l z).length ≤ 200) : envV l z = [] ∧ envE l z = 4 := ⟨if_neg fun g => h2 g.2, (if_pos h).trans (if_neg h2)⟩
theorem env_ok {l : List Dem} {z : Bx} (h : okDems l ∧ okBx z) (h2 : (envR l z).length ≤ 200) : envV l z = envR l z ∧ envE l z = 0 := ⟨if_pos ⟨h, h2⟩, (if_pos h).trans (if_pos h2)⟩

end Go.Proofs.YthiockdlhehhoaaDoor
