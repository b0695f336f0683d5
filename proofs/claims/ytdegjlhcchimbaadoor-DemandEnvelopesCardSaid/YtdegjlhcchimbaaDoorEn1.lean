/-
  Demands: their envelope.
  Conditions: none.
-/
import Derived.Test.YtdegjlhcchimbaaDoorDm4
import Derived.Test.YtdegjlhcchimbaaDoorAmComp
namespace Go.Proofs.YtdegjlhcchimbaaDoor
open Go Go.AM
set_option linter.unusedSimpArgs false
set_option linter.unusedVariables false
set_option maxRecDepth 100000
set_option maxHeartbeats 1000000

/-- Where a function's values change. -/
def envL (f : Int → Int) : Int → List Int → List (Int × Int)
  | _, [] => []
  | v, x :: xs => (if f x = v then [] else [(x, f x)]) ++ envL f (f x) xs
def endF (f : Int → Int) : Int → List Int → Int
  | v, [] => v
  | _, x :: xs => endF f (f x) xs
theorem endF_snoc (f : Int → Int) (x : Int) : ∀ (l : List Int) (v : Int), endF f v (l ++ [x]) = f x
  | [], _ => rfl
  | y :: l, v => endF_snoc f x l (f y)
theorem envL_snoc (f : Int → Int) (x : Int) : ∀ (l : List Int) (v : Int), envL f v (l ++ [x]) = envL f v l ++ if f x = endF f v l then [] else [(x, f x)]
  | [], v => by
    show (if f x = v then [] else [(x, f x)]) ++ [] = [] ++ (if f x = v then [] else [(x, f x)])
    rw [List.append_nil, List.nil_append]
  | y :: l, v => by rw [List.cons_append, envL, envL, envL_snoc f x l (f y), endF, List.append_assoc]
theorem envL_len (f : Int → Int) : ∀ (l : List Int) (v : Int), (envL f v l).length ≤ l.length
  | [], v => Nat.le_refl _
  | y :: l, v => by
    have := envL_len f l (f y)
    rw [envL, List.length_append, List.length_cons]
    split <;> simp <;> omega
theorem envL_map {f g : Int → Int} : ∀ {l : List Int} {v : Int}, (∀ x ∈ l, f x = g x) → envL f v l = envL g v l
  | [], _, _ => rfl
  | y :: l, v, h => by
    have h1 := h y (by simp)
    rw [envL, envL, h1, envL_map fun x hx => h x (by simp [hx])]
/-- Places without a change may be left out. -/
theorem envL_filter (f : Int → Int) (p : Int → Bool) : ∀ (l : List Int) (v : Int), (∀ pre x suf, l = pre ++ x :: suf → p x = false → f x = endF f v pre) → envL f v l = envL f v (l.filter p)
  | [], _, _ => rfl
  | y :: l, v, h => by
    have ih : envL f (f y) l = envL f (f y) (l.filter p) := envL_filter f p l (f y) fun pre x suf e hx => h (y :: pre) x suf (by rw [e]; rfl) hx
    rw [List.filter_cons]
    cases hp : p y with
    | true => rw [if_pos rfl, envL, envL, ih]
    | false =>
      have h0 : f y = v := h [] y l rfl hp
      rw [if_neg (by simp), envL, if_pos h0, List.nil_append, ih, h0]
abbrev asc (l : List Int) : Prop := l.Pairwise fun a b => a < b
theorem asc_ext : ∀ {a b : List Int}, asc a → asc b → (∀ x, x ∈ a ↔ x ∈ b) → a = b
  | [], [], _, _, _ => rfl
  | [], y :: b, _, _, h => absurd ((h y).2 (by simp)) (by simp)
  | x :: a, [], _, _, h => absurd ((h x).1 (by simp)) (by simp)
  | x :: a, y :: b, ha, hb, h => by
    obtain ⟨ha1, ha2⟩ := List.pairwise_cons.1 ha
    obtain ⟨hb1, hb2⟩ := List.pairwise_cons.1 hb
    have e : x = y := by
      rcases List.mem_cons.1 ((h x).1 (by simp)) with h1 | h1
      · exact h1
      · rcases List.mem_cons.1 ((h y).2 (by simp)) with h2 | h2
        · exact h2.symm
        · have := ha1 y h2
          have := hb1 x h1
          omega
    subst e
    congr 1
    refine asc_ext ha2 hb2 fun z => ?_
    have hz := h z
    simp only [List.mem_cons] at hz
    constructor
    · intro h1
      rcases hz.1 (.inr h1) with h2 | h2
      · have := ha1 z h1; omega
      · exact h2
    · intro h1
      rcases hz.2 (.inr h1) with h2 | h2
      · have := hb1 z h1; omega
      · exact h2
/-- Of a sorted list each element once. -/
theorem compact_asc {l : List Int} (h : l.Pairwise fun a b => a ≤ b) : asc (Go.Lib.compact l) ∧ ∀ x, x ∈ Go.Lib.compact l ↔ x ∈ l := by
  have key : ∀ m, m ≤ l.length → asc (Go.Lib.compactUpTo l.toArray m) ∧ (∀ x, x ∈ Go.Lib.compactUpTo l.toArray m ↔ x ∈ l.take m) := by
    intro m
    induction m with
    | zero => intro _; simp [Go.Lib.compactUpTo]
    | succ m ih =>
      intro hm
      obtain ⟨h1, h2⟩ := ih (by omega)
      have hml : m < l.length := by omega
      have hget : l.toArray[m]! = l[m] := by simp [hml]
      have htk : l.take (m + 1) = l.take m ++ [l[m]] := by rw [List.take_add_one, List.getElem?_eq_getElem hml]; rfl
      rw [Go.Lib.compactUpTo_succ, htk, hget]
      by_cases hk : Go.Lib.keeps l.toArray m = true
      · rw [if_pos hk]
        refine ⟨List.pairwise_append.2 ⟨h1, by simp, fun a ha b hb => ?_⟩, fun x => by rw [List.mem_append, List.mem_append, h2 x]⟩
        obtain rfl := List.mem_singleton.1 hb
        obtain ⟨i, hi, rfl⟩ := List.mem_iff_getElem.1 ((h2 a).1 ha)
        have hi2 : i < m := by simp at hi; omega
        rw [List.getElem_take]
        have hle : l[i] ≤ l[m - 1] := by
          by_cases e : i = m - 1
          · simp [e]
          · exact List.pairwise_iff_getElem.1 h i (m - 1) (by omega) (by omega) (by omega)
        have hle2 : l[m - 1] ≤ l[m] := List.pairwise_iff_getElem.1 h (m - 1) m (by omega) (by omega) (by omega)
        have hne : l[m - 1] ≠ l[m] := by
          simp only [Go.Lib.keeps, decide_eq_true_eq] at hk
          rcases hk with hk | hk
          · omega
          · rw [hget, show l.toArray[m - 1]! = l[m - 1] by simp [show m - 1 < l.length by omega]] at hk
            exact fun e => hk e.symm
        omega
      · rw [if_neg hk, List.append_nil]
        refine ⟨h1, fun x => ?_⟩
        rw [h2 x, List.mem_append, List.mem_singleton]
        constructor
        · exact .inl
        · rintro (h3 | rfl)
          · exact h3
          · simp only [Go.Lib.keeps, decide_eq_true_eq, not_or, Decidable.not_not] at hk
            obtain ⟨hm0, he⟩ := hk
            rw [hget, show l.toArray[m - 1]! = l[m - 1] by simp [show m - 1 < l.length by omega]] at he
            rw [he]
            exact List.mem_iff_getElem.2 ⟨m - 1, by simp; omega, by rw [List.getElem_take]⟩
  have := key l.length (Nat.le_refl _)
  rwa [List.take_length] at this
theorem compact_le (l : List Int) : (Go.Lib.compact l).length ≤ l.length := by
  have key : ∀ m, (Go.Lib.compactUpTo l.toArray m).length ≤ m := by
    intro m
    induction m with
    | zero => simp [Go.Lib.compactUpTo]
    | succ m ih =>
      rw [Go.Lib.compactUpTo_succ, List.length_append]
      split <;> simp <;> omega
  exact key l.length
theorem atF_or' (x : Int) : ∀ (l : List (Int × Int)) (v : Int), (∀ s ∈ l, x < s.1) → atF v l x = v
  | [], v, _ => rfl
  | s :: l, v, h => by
    rw [atF, if_neg (by have := h s (by simp); omega)]
    exact atF_or' x l v fun t ht => h t (by simp [ht])
/-- Between two places without a step a function does not change. -/
theorem atF_same {y x : Int} (hyx : y ≤ x) : ∀ (l : List (Int × Int)) (v : Int), (∀ s ∈ l, ¬ (y < s.1 ∧ s.1 ≤ x)) → atF v l x = atF v l y
  | [], v, _ => rfl
  | s :: l, v, h => by
    have h1 := h s (by simp)
    rw [atF, atF, atF_same hyx l _ fun t ht => h t (by simp [ht])]
    congr 1
    by_cases h2 : s.1 ≤ y
    · rw [if_pos h2, if_pos (by omega)]
    · rw [if_neg h2, if_neg (by omega)]
/-- The least of some numbers that is greater. -/
def nextF (x : Int) (fs : List Int) : Int × Bool := fs.foldl (fun q f => if f > x ∧ (q.2 = false ∨ f < q.1) then (f, true) else q) (0, false)
theorem nextF_snoc (x : Int) (l : List Int) (f : Int) : nextF x (l ++ [f]) = if f > x ∧ ((nextF x l).2 = false ∨ f < (nextF x l).1) then (f, true) else nextF x l := by simp [nextF]
theorem nextF_spec (x : Int) : ∀ fs : List Int, ((nextF x fs).2 = false → nextF x fs = (0, false) ∧ ∀ f ∈ fs, ¬ f > x) ∧ ((nextF x fs).2 = true → (nextF x fs).1 ∈ fs ∧ (nextF x fs).1 > x ∧ ∀ f ∈ fs, f > x → (nextF x fs).1 ≤ f) := by
  refine snoc_ind ⟨fun _ => ⟨rfl, fun f h => by cases h⟩, fun h => by cases h⟩ ?_
  intro l f ih
  obtain ⟨h1, h2⟩ := ih
  rw [nextF_snoc]
  obtain ⟨⟨n, b⟩, hq⟩ : ∃ q, nextF x l = q := ⟨_, rfl⟩
  rw [hq] at h1 h2 ⊢
  simp only at h1 h2 ⊢
  split
  · rename_i hc
    refine ⟨fun h => (by cases h), fun _ => ⟨by simp, hc.1, fun g hg hgx => ?_⟩⟩
    rcases List.mem_append.1 hg with hg | hg
    · cases b with
      | false => exact absurd hgx ((h1 rfl).2 g hg)
      | true =>
        obtain ⟨_, _, h5⟩ := h2 rfl
        have := h5 g hg hgx
        rcases hc.2 with h6 | h6
        · cases h6
        · simp only at *; omega
    · obtain rfl := List.mem_singleton.1 hg
      exact Int.le_refl _
  · rename_i hc
    refine ⟨fun hb => ⟨(h1 hb).1, fun g hg => ?_⟩, fun hb => ?_⟩
    · subst hb
      rcases List.mem_append.1 hg with hg | hg
      · exact (h1 rfl).2 g hg
      · obtain rfl := List.mem_singleton.1 hg
        exact fun h => hc ⟨h, .inl rfl⟩
    · subst hb
      obtain ⟨h3, h4, h5⟩ := h2 rfl
      refine ⟨by simp [h3], h4, fun g hg hgx => ?_⟩
      rcases List.mem_append.1 hg with hg | hg
      · exact h5 g hg hgx
      · obtain rfl := List.mem_singleton.1 hg
        rcases Int.lt_or_le g n with h6 | h6
        · exact absurd ⟨hgx, .inr h6⟩ hc
        · exact h6
def hdI (l : List Int) : Int := match l with
  | [] => 0
  | x :: _ => x
def hdB (l : List Int) : Bool := match l with
  | [] => false
  | _ :: _ => true
/-- From one place of an ascending list to the next. -/
theorem nextF_asc {fs A pre suf : List Int} {x : Int} (hA : asc A) (hm : ∀ y, y ∈ A ↔ y ∈ fs) (h : A = pre ++ x :: suf) : nextF x fs = (hdI suf, hdB suf) := by
  subst h
  obtain ⟨h1, h2⟩ := nextF_spec x fs
  have hp := List.pairwise_append.1 hA
  obtain ⟨hx, hsuf⟩ := List.pairwise_cons.1 hp.2.1
  rcases suf with _ | ⟨y, suf⟩
  · cases hb : (nextF x fs).2 with
    | false => exact (h1 hb).1
    | true =>
      obtain ⟨h3, h4, _⟩ := h2 hb
      have := (hm _).2 h3
      simp only [List.mem_append, List.mem_singleton] at this
      rcases this with h5 | h5
      · have := hp.2.2 _ h5 x (by simp); omega
      · omega
  · have hy : y > x := hx y (by simp)
    have hyf : y ∈ fs := (hm y).1 (by simp)
    cases hb : (nextF x fs).2 with
    | false => exact absurd hy ((h1 hb).2 y hyf)
    | true =>
      obtain ⟨h3, h4, h5⟩ := h2 hb
      have h6 := h5 y hyf hy
      have h7 := (hm _).2 h3
      simp only [List.mem_append, List.mem_cons] at h7
      have h8 : (nextF x fs).1 = y := by
        rcases h7 with h7 | h7 | h7 | h7
        · have := hp.2.2 _ h7 x (by simp); omega
        · omega
        · exact h7
        · have := (List.pairwise_cons.1 hsuf).1 _ h7; omega
      exact Prod.ext h8 hb
theorem nextF_first {fs A : List Int} {x : Int} (hA : asc A) (hm : ∀ y, y ∈ A ↔ y ∈ fs) (hx : ∀ y ∈ A, x < y) : nextF x fs = (hdI A, hdB A) := by
  obtain ⟨h1, h2⟩ := nextF_spec x fs
  rcases A with _ | ⟨y, suf⟩
  · cases hb : (nextF x fs).2 with
    | false => exact (h1 hb).1
    | true => exact absurd ((hm _).2 (h2 hb).1) (by simp)
  · have hy : y > x := hx y (by simp)
    have hyf : y ∈ fs := (hm y).1 (by simp)
    obtain ⟨hy1, hy2⟩ := List.pairwise_cons.1 hA
    cases hb : (nextF x fs).2 with
    | false => exact absurd hy ((h1 hb).2 y hyf)
    | true =>
      obtain ⟨h3, h4, h5⟩ := h2 hb
      have h6 := h5 y hyf hy
      have h7 := (hm _).2 h3
      have h8 : (nextF x fs).1 = y := by
        rcases List.mem_cons.1 h7 with h7 | h7
        · exact h7
        · have := hy1 _ h7; omega
      exact Prod.ext h8 hb

def inL (l : List Dem) (z : Bx) : List Dem := l.filter fun d => decide (inB d.zone z)
theorem inL_snoc_t {l : List Dem} {z : Bx} {d : Dem} (h : inB d.zone z) : inL (l ++ [d]) z = inL l z ++ [d] := by simp [inL, h]
theorem inL_snoc_f {l : List Dem} {z : Bx} {d : Dem} (h : ¬ inB d.zone z) : inL (l ++ [d]) z = inL l z := by simp [inL, h]
theorem inL_len (l : List Dem) (z : Bx) : (inL l z).length ≤ l.length := List.length_filter_le _ _
def topL (m : List Dem) (x : Int) : Int := m.foldl (fun n d => max n (atF 0 d.steps x)) 0
theorem topL_snoc (m : List Dem) (d : Dem) (x : Int) : topL (m ++ [d]) x = max (topL m x) (atF 0 d.steps x) := by simp [topL]
def topV (l : List Dem) (z : Bx) (x : Int) : Int := topL (inL l z) x
theorem topL_bd (x : Int) : ∀ m : List Dem, (∀ d ∈ m, okDem d) → 0 ≤ topL m x ∧ topL m x ≤ 1099511627776 := by
  refine snoc_ind (fun _ => by simp [topL]) ?_
  intro m d ih h
  have h1 := ih fun b hb => h b (by simp [hb])
  have h2 := atF_bd (y := x) (l := d.steps) 0 (h d (by simp)).2.2.2.1 (by decide) (by decide)
  rw [topL_snoc]
  omega
theorem topL_same {x y : Int} : ∀ m : List Dem, (∀ d ∈ m, atF 0 d.steps x = atF 0 d.steps y) → topL m x = topL m y := by
  refine snoc_ind (fun _ => rfl) ?_
  intro m d ih h
  rw [topL_snoc, topL_snoc, ih fun b hb => h b (by simp [hb]), h d (by simp)]
theorem topL_zero {x : Int} : ∀ m : List Dem, (∀ d ∈ m, atF 0 d.steps x = 0) → topL m x = 0 := by
  refine snoc_ind (fun _ => rfl) ?_
  intro m d ih h
  rw [topL_snoc, ih fun b hb => h b (by simp [hb]), h d (by simp)]
  rfl
def froms (m : List Dem) : List Int := m.flatMap fun d => d.steps.map (·.1)
theorem froms_snoc (m : List Dem) (d : Dem) : froms (m ++ [d]) = froms m ++ d.steps.map (·.1) := by simp [froms]
theorem froms_len : ∀ m : List Dem, (∀ d ∈ m, okDem d) → (froms m).length ≤ 200 * m.length := by
  refine snoc_ind (fun _ => by simp [froms]) ?_
  intro m d ih h
  have h1 := ih fun b hb => h b (by simp [hb])
  have h2 := (h d (by simp)).2.2.1
  rw [froms_snoc, List.length_append, List.length_append, List.length_map, List.length_singleton, Nat.mul_add]
  omega
theorem mem_froms {m : List Dem} {x : Int} : x ∈ froms m ↔ ∃ d ∈ m, ∃ s ∈ d.steps, s.1 = x := by
  simp only [froms, List.mem_flatMap, List.mem_map]
theorem froms_in {l : List Dem} {z : Bx} {x : Int} (h : x ∈ froms (inL l z)) : x ∈ froms l := by
  obtain ⟨d, hd, s, hs, e⟩ := mem_froms.1 h
  exact mem_froms.2 ⟨d, (List.mem_filter.1 hd).1, s, hs, e⟩
def srt (l : List Int) : List Int := l.mergeSort fun x y => decide (x ≤ y)
theorem srt_mem (l : List Int) (x : Int) : x ∈ srt l ↔ x ∈ l := (List.mergeSort_perm l _).mem_iff
theorem srt_len (l : List Int) : (srt l).length = l.length := List.length_mergeSort l
theorem srt_le (l : List Int) : (srt l).Pairwise fun a b => a ≤ b := by
  have := List.pairwise_mergeSort (le := fun x y : Int => decide (x ≤ y)) (fun a b c h1 h2 => by simp at *; omega) (fun a b => by simp; omega) l
  exact this.imp fun h => by simpa using h
def plc (m : List Dem) : List Int := Go.Lib.compact (srt (froms m))
theorem plc_spec (m : List Dem) : asc (plc m) ∧ ∀ x, x ∈ plc m ↔ x ∈ froms m := by
  obtain ⟨h1, h2⟩ := compact_asc (srt_le (froms m))
  exact ⟨h1, fun x => (h2 x).trans (srt_mem _ x)⟩
theorem plc_len (m : List Dem) : (plc m).length ≤ (froms m).length := by
  have := compact_le (srt (froms m))
  rwa [srt_len] at this
theorem okTop {l : List Dem} {z : Bx} (h : okDems l) : ∀ d ∈ inL l z, okDem d := fun d hd => h.2.1 d (List.mem_filter.1 hd).1
/-- The places of all demands tell no more than those of the demands in the box. -/
theorem env_same (l : List Dem) (z : Bx) : envL (topV l z) 0 (plc l) = envL (topV l z) 0 (plc (inL l z)) := by
  obtain ⟨a1, a2⟩ := plc_spec l
  obtain ⟨b1, b2⟩ := plc_spec (inL l z)
  have e : plc (inL l z) = (plc l).filter fun x => decide (x ∈ froms (inL l z)) := by
    refine asc_ext b1 (List.Pairwise.filter _ a1) fun x => ?_
    rw [b2 x, List.mem_filter, a2 x]
    simp only [decide_eq_true_eq]
    exact ⟨fun h => ⟨froms_in h, h⟩, fun h => h.2⟩
  rw [e]
  refine envL_filter _ _ _ _ fun pre x suf hp hx => ?_
  have hx2 : x ∉ froms (inL l z) := by simpa using hx
  rw [hp] at a1
  have hq := List.pairwise_append.1 a1
  obtain ⟨hs, _⟩ := List.pairwise_cons.1 hq.2.1
  have hin : ∀ d ∈ inL l z, ∀ s ∈ d.steps, s.1 ∈ pre ∨ s.1 ∈ suf := fun d hd s hs => by
    have h1 : s.1 ∈ froms (inL l z) := mem_froms.2 ⟨d, hd, s, hs, rfl⟩
    have h2 := (a2 s.1).2 (froms_in h1)
    rw [hp] at h2
    simp only [List.mem_append, List.mem_cons] at h2
    rcases h2 with h2 | h2 | h2
    · exact .inl h2
    · rw [h2] at h1; exact absurd h1 hx2
    · exact .inr h2
  rcases List.eq_nil_or_concat pre with rfl | ⟨pre', y, rfl⟩
  · show topV l z x = 0
    refine topL_zero _ fun d hd => atF_or' x _ _ fun s hss => ?_
    rcases hin d hd s hss with h | h
    · cases h
    · exact hs _ h
  · rw [List.concat_eq_append, endF_snoc]
    rw [List.concat_eq_append] at hq hin
    have hyx := hq.2.2 y (by simp) x (by simp)
    refine topL_same _ fun d hd => atF_same (by omega) _ _ fun s hss => ?_
    rintro ⟨h1, h2⟩
    have hq1 := List.pairwise_append.1 hq.1
    rcases hin d hd s hss with h | h
    · rcases List.mem_append.1 h with h | h
      · have := hq1.2.2 _ h y (by simp); omega
      · have := List.mem_singleton.1 h; omega
    · have := hs _ h; omega
def envR (l : List Dem) (z : Bx) : List (Int × Int) := envL (topV l z) 0 (plc (inL l z))
def envV (l : List Dem) (z : Bx) : List (Int × Int) := if (okDems l ∧ okBx z) ∧ (envR l z).length ≤ 200 then envR l z else []
def envE (l : List Dem) (z : Bx) : Int := if okDems l ∧ okBx z then (if (envR l z).length ≤ 200 then 0 else 4) else 1
theorem env_arg {l : List Dem} {z : Bx} (h : ¬ (okDems l ∧ okBx z)) : envV l z = [] ∧ envE l z = 1 := ⟨if_neg fun g => h g.1, if_neg h⟩
theorem env_full {l : List Dem} {z : Bx} (h : okDems l ∧ okBx z) (h2 : ¬ (envR l z).length ≤ 200) : envV l z = [] ∧ envE l z = 4 := ⟨if_neg fun g => h2 g.2, (if_pos h).trans (if_neg h2)⟩
theorem env_ok {l : List Dem} {z : Bx} (h : okDems l ∧ okBx z) (h2 : (envR l z).length ≤ 200) : envV l z = envR l z ∧ envE l z = 0 := ⟨if_pos ⟨h, h2⟩, (if_pos h).trans (if_pos h2)⟩

theorem dd_lo {u : Nat} (h : u < 10) : Go.Lib.decDigits u = [UInt8.ofNat (48 + u)] := by rw [Go.Lib.decDigits, dif_pos h]
theorem dd_hi {u : Nat} (h : ¬ u < 10) : Go.Lib.decDigits u = Go.Lib.decDigits (u / 10) ++ [UInt8.ofNat (48 + u % 10)] := by
  conv => lhs; rw [Go.Lib.decDigits, dif_neg h]
theorem itoa_nn {n : Int} (h : 0 ≤ n) : Go.Lib.itoa n = Go.Lib.decDigits n.toNat := by
  unfold Go.Lib.itoa
  rw [if_neg (by omega)]
theorem itoa_ng {n : Int} (h : n < 0) : Go.Lib.itoa n = 45 :: Go.Lib.decDigits (-n).toNat := by
  unfold Go.Lib.itoa
  rw [if_pos h, show n.natAbs = (-n).toNat by omega]
theorem dec_n1 {n : Int} (h : n < 0) (h2 : -10 < n) : Go.Lib.itoa n = [45] ++ [UInt8.ofNat (48 - n).toNat] := by
  rw [itoa_ng h, dd_lo (by omega), show (48 - n).toNat = 48 + (-n).toNat by omega]
  rfl
theorem tdiv10 {n : Int} (h : n < 0) : n.tdiv 10 = -((-n) / 10) ∧ n.tmod 10 = -((-n) % 10) := by
  have h1 : n.tdiv 10 = -((-n).tdiv 10) := by rw [Int.neg_tdiv, Int.neg_neg]
  have h2 : n.tmod 10 = -((-n).tmod 10) := by rw [Int.neg_tmod, Int.neg_neg]
  rw [h1, h2, Int.tdiv_eq_ediv_of_nonneg (by omega), Int.tmod_eq_emod_of_nonneg (by omega)]
  exact ⟨rfl, rfl⟩
theorem dec_n2 {n : Int} (h : n ≤ -10) : Go.Lib.itoa n = Go.Lib.itoa (n.tdiv 10) ++ [UInt8.ofNat (48 - n.tmod 10).toNat] := by
  obtain ⟨h1, h2⟩ := tdiv10 (n := n) (by omega)
  rw [h1, h2, itoa_ng (by omega), itoa_ng (n := -(-n / 10)) (by omega), dd_hi (by omega), List.cons_append, show (- -(-n / 10)).toNat = (-n).toNat / 10 by omega, show (48 - -(-n % 10)).toNat = 48 + (-n).toNat % 10 by omega]
theorem dec_n2' {n : Int} (h : n ≤ -10) : Go.Lib.itoa n = Go.Lib.itoa (-(-n / 10)) ++ [UInt8.ofNat (48 - -(-n % 10)).toNat] := by
  obtain ⟨h1, h2⟩ := tdiv10 (n := n) (by omega)
  rw [dec_n2 h, h1, h2]
theorem dec_p1 {n : Int} (h : 0 ≤ n) (h2 : n < 10) : Go.Lib.itoa n = [UInt8.ofNat (48 + n % 10).toNat] := by
  rw [itoa_nn h, dd_lo (by omega), show (48 + n % 10).toNat = 48 + n.toNat by omega]
theorem dec_p2 {n : Int} (h : 10 ≤ n) : Go.Lib.itoa n = Go.Lib.itoa (n / 10) ++ [UInt8.ofNat (48 + n % 10).toNat] := by
  rw [itoa_nn (by omega), itoa_nn (by omega), dd_hi (by omega), show (n / 10).toNat = n.toNat / 10 by omega, show (48 + n % 10).toNat = 48 + n.toNat % 10 by omega]

end Go.Proofs.YtdegjlhcchimbaaDoor
