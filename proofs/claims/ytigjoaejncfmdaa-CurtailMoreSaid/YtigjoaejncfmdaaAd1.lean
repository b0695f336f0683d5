/-
  The sum of two step functions: plain laws.
  Conditions: none.
-/
import Derived.Test.YtigjoaejncfmdaaB9
import Derived.Test.YtigjoaejncfmdaaCk1
namespace Go.Proofs.Ytigjoaejncfmdaa
open Go Go.AM
set_option linter.unusedSimpArgs false
set_option linter.unusedVariables false
set_option maxRecDepth 100000

/-! The places of two lists, each once, ascending. -/
def nextX : List (Int × Int) → List (Int × Int) → Int
  | [], [] => 0
  | [], q :: _ => q.1
  | p :: _, [] => p.1
  | p :: _, q :: _ => min p.1 q.1
def dropX (x : Int) : List (Int × Int) → List (Int × Int)
  | [] => []
  | s :: l => if s.1 = x then l else s :: l
def Brk : List (Int × Int) → List (Int × Int) → List Int → Prop
  | a, b, [] => a = [] ∧ b = []
  | a, b, x :: xs => ¬ (a = [] ∧ b = []) ∧ x = nextX a b ∧ Brk (dropX x a) (dropX x b) xs
def hd0 (l : List (Int × Int)) : Int × Int := l.headD (0, 0)
theorem hd_get {l : List (Int × Int)} (h : 0 < l.length) : l[0]? = some (hd0 l) := by
  cases l with
  | nil => simp at h
  | cons s l => rfl
theorem nx_m {a b : List (Int × Int)} {p q : Int × Int} (h : a[0]? = some p) (h' : b[0]? = some q) : min p.1 q.1 = nextX a b := by
  cases a <;> cases b <;> simp_all [nextX]
theorem nx_a {a b : List (Int × Int)} {p : Int × Int} (h : b.length = 0) (h' : a[0]? = some p) : p.1 = nextX a b := by
  rw [List.eq_nil_of_length_eq_zero h]
  cases a <;> simp_all [nextX]
theorem nx_b {a b : List (Int × Int)} {p : Int × Int} (h : a.length = 0) (h' : b[0]? = some p) : p.1 = nextX a b := by
  rw [List.eq_nil_of_length_eq_zero h]
  cases b <;> simp_all [nextX]
theorem dx_n {x : Int} {l : List (Int × Int)} (h : l.length = 0) : dropX x l = l := by
  rw [List.eq_nil_of_length_eq_zero h]; rfl
theorem dx_t {x : Int} {l : List (Int × Int)} {p : Int × Int} (h : l[0]? = some p) (e : p.1 = x) : dropX x l = l.drop 1 := by
  cases l with
  | nil => simp at h
  | cons s l => simp only [List.length_cons, List.getElem?_cons_zero, Option.some.injEq] at h; subst h; rw [dropX, if_pos e]; rfl
theorem dx_f {x : Int} {l : List (Int × Int)} {p : Int × Int} (h : l[0]? = some p) (e : ¬ p.1 = x) : dropX x l = l := by
  cases l with
  | nil => simp at h
  | cons s l => simp only [List.length_cons, List.getElem?_cons_zero, Option.some.injEq] at h; subst h; rw [dropX, if_neg e]
theorem dx_len (x : Int) (l : List (Int × Int)) : (dropX x l).length ≤ l.length := by
  cases l with
  | nil => exact Nat.le_refl _
  | cons s l => rw [dropX]; split <;> simp
theorem dx_lt {x : Int} {a b : List (Int × Int)} (h : 0 < a.length + b.length) (e : x = nextX a b) : (dropX x a).length + (dropX x b).length < a.length + b.length := by
  have h1 := dx_len x a
  have h2 := dx_len x b
  rcases a with _ | ⟨p, a⟩ <;> rcases b with _ | ⟨q, b⟩
  · simp at h
  · rw [nextX] at e; rw [e]; simp [dropX]
  · rw [nextX] at e; rw [e]; simp [dropX]
  · rw [nextX] at e
    rcases Int.le_total p.1 q.1 with h3 | h3
    · have : dropX x (p :: a) = a := by rw [dropX, if_pos (by omega)]
      rw [this] at h1 ⊢
      simp only [List.length_cons] at *
      omega
    · have : dropX x (q :: b) = b := by rw [dropX, if_pos (by omega)]
      rw [this] at h2 ⊢
      simp only [List.length_cons] at *
      omega
theorem brk_step {a b a' b' : List (Int × Int)} {pre : List Int} {x : Int} (hinv : (∀ xs, Brk a' b' xs → Brk a b (pre ++ xs)) ∧ pre.length + a'.length + b'.length ≤ a.length + b.length) (h : 0 < a'.length + b'.length) (e : x = nextX a' b') :
    (∀ xs, Brk (dropX x a') (dropX x b') xs → Brk a b (pre ++ [x] ++ xs)) ∧ (pre ++ [x]).length + (dropX x a').length + (dropX x b').length ≤ a.length + b.length := by
  refine ⟨fun xs hx => ?_, ?_⟩
  · rw [List.append_assoc]
    refine hinv.1 _ ⟨fun hn => ?_, e, hx⟩
    rw [hn.1, hn.2] at h
    simp at h
  · have := dx_lt h e
    rw [List.length_append, List.length_singleton]
    omega
theorem brk_ex : ∀ (n : Nat) (a b : List (Int × Int)), a.length + b.length ≤ n → ∃ xs, Brk a b xs
  | 0, a, b, h => ⟨[], List.eq_nil_of_length_eq_zero (by omega), List.eq_nil_of_length_eq_zero (by omega)⟩
  | n + 1, a, b, h => by
    by_cases h0 : 0 < a.length + b.length
    · have := dx_lt h0 rfl
      obtain ⟨xs, hx⟩ := brk_ex n _ _ (show (dropX (nextX a b) a).length + (dropX (nextX a b) b).length ≤ n by omega)
      refine ⟨nextX a b :: xs, fun hn => ?_, rfl, hx⟩
      rw [hn.1, hn.2] at h0
      simp at h0
    · exact ⟨[], List.eq_nil_of_length_eq_zero (by omega), List.eq_nil_of_length_eq_zero (by omega)⟩
theorem brk_uniq : ∀ (xs ys : List Int) (a b : List (Int × Int)), Brk a b xs → Brk a b ys → xs = ys
  | [], [], _, _, _, _ => rfl
  | [], _ :: _, _, _, h, h' => absurd h h'.1
  | _ :: _, [], _, _, h, h' => absurd h' h.1
  | x :: xs, y :: ys, a, b, h, h' => by
    have e : x = y := h.2.1.trans h'.2.1.symm
    subst e
    rw [brk_uniq xs ys _ _ h.2.2 h'.2.2]
theorem brk_len : ∀ (xs : List Int) (a b : List (Int × Int)), Brk a b xs → xs.length ≤ a.length + b.length
  | [], _, _, _ => Nat.zero_le _
  | x :: xs, a, b, h => by
    have h1 := brk_len xs _ _ h.2.2
    have h2 : 0 < a.length + b.length := by
      rcases Nat.eq_zero_or_pos (a.length + b.length) with h0 | h0
      · exact absurd ⟨List.eq_nil_of_length_eq_zero (by omega), List.eq_nil_of_length_eq_zero (by omega)⟩ h.1
      · exact h0
    have h3 := dx_lt h2 h.2.1
    simp only [List.length_cons]
    omega
/-- All elements from a place on. -/
def From (m : Int) (l : List (Int × Int)) : Prop := l.Pairwise (fun p q => p.1 < q.1) ∧ ∀ s ∈ l, m ≤ s.1
theorem atF_lo {y : Int} : ∀ (l : List (Int × Int)) (v : Int), (∀ s ∈ l, y < s.1) → atF v l y = v
  | [], _, _ => rfl
  | s :: l, v, h => by
    rw [atF, if_neg (by have := h s (by simp); omega)]
    exact atF_lo l v fun t ht => h t (by simp [ht])
theorem From.drop {m x : Int} {l : List (Int × Int)} (h : From m l) (hx : ∀ s ∈ l, x ≤ s.1) : From (x + 1) (dropX x l) ∧ ∀ (v y : Int), x ≤ y → atF v l y = atF (atF v l x) (dropX x l) y := by
  rcases l with _ | ⟨s, l⟩
  · exact ⟨⟨List.Pairwise.nil, fun s hs => by cases hs⟩, fun v y hy => rfl⟩
  · have h1 := List.pairwise_cons.1 h.1
    have hs := hx s (by simp)
    rw [dropX]
    split
    · rename_i e
      refine ⟨⟨h1.2, fun t ht => ?_⟩, fun v y hy => ?_⟩
      · have := h1.1 t ht; omega
      · rw [atF, atF, if_pos (by omega), if_pos (by omega), atF_lo (y := x) l s.2 fun t ht => by have := h1.1 t ht; omega]
    · rename_i e
      refine ⟨⟨h.1, fun t ht => ?_⟩, fun v y hy => ?_⟩
      · rcases List.mem_cons.1 ht with rfl | ht
        · omega
        · have := h1.1 t ht; omega
      · rw [atF_lo (y := x) (s :: l) v fun t ht => by
          rcases List.mem_cons.1 ht with rfl | ht
          · omega
          · have := h1.1 t ht; omega]
theorem nextX_le {a b : List (Int × Int)} {m m' : Int} (ha : From m a) (hb : From m' b) : (∀ s ∈ a, nextX a b ≤ s.1) ∧ ∀ s ∈ b, nextX a b ≤ s.1 := by
  rcases a with _ | ⟨p, a⟩ <;> rcases b with _ | ⟨q, b⟩
  · exact ⟨fun s hs => (by cases hs), fun s hs => (by cases hs)⟩
  · refine ⟨fun s hs => (by cases hs), fun s hs => ?_⟩
    rw [nextX]
    rcases List.mem_cons.1 hs with rfl | hs
    · omega
    · have := (List.pairwise_cons.1 hb.1).1 s hs; omega
  · refine ⟨fun s hs => ?_, fun s hs => (by cases hs)⟩
    rw [nextX]
    rcases List.mem_cons.1 hs with rfl | hs
    · omega
    · have := (List.pairwise_cons.1 ha.1).1 s hs; omega
  · rw [nextX]
    refine ⟨fun s hs => ?_, fun s hs => ?_⟩
    · rcases List.mem_cons.1 hs with rfl | hs
      · omega
      · have := (List.pairwise_cons.1 ha.1).1 s hs; omega
    · rcases List.mem_cons.1 hs with rfl | hs
      · omega
      · have := (List.pairwise_cons.1 hb.1).1 s hs; omega
theorem nextX_mem {a b : List (Int × Int)} (h : ¬ (a = [] ∧ b = [])) : (∃ s ∈ a, nextX a b = s.1) ∨ ∃ s ∈ b, nextX a b = s.1 := by
  rcases a with _ | ⟨p, a⟩ <;> rcases b with _ | ⟨q, b⟩
  · exact absurd ⟨rfl, rfl⟩ h
  · exact .inr ⟨q, by simp, rfl⟩
  · exact .inl ⟨p, by simp, rfl⟩
  · rw [nextX]
    rcases Int.le_total p.1 q.1 with h1 | h1
    · exact .inl ⟨p, by simp, by omega⟩
    · exact .inr ⟨q, by simp, by omega⟩
theorem dropX_sub (x : Int) (l : List (Int × Int)) : ∀ s ∈ dropX x l, s ∈ l := by
  rcases l with _ | ⟨p, l⟩
  · exact fun s hs => hs
  · rw [dropX]
    split
    · exact fun s hs => by simp [hs]
    · exact fun s hs => hs
/-- The places ascend, and lie in the lists. -/
theorem brk_asc : ∀ (xs : List Int) (a b : List (Int × Int)) (m : Int), Brk a b xs → From m a → From m b → xs.Pairwise (fun p q => p < q) ∧ (∀ x ∈ xs, m ≤ x) ∧ ∀ x ∈ xs, (∃ s ∈ a, x = s.1) ∨ ∃ s ∈ b, x = s.1
  | [], _, _, _, _, _, _ => ⟨List.Pairwise.nil, fun x h => (by cases h), fun x h => by cases h⟩
  | x :: xs, a, b, m, h, ha, hb => by
    obtain ⟨h1, h2, h3⟩ := h
    have hl := nextX_le ha hb
    rw [← h2] at hl
    obtain ⟨i1, i2, i3⟩ := brk_asc xs _ _ (x + 1) h3 (ha.drop hl.1).1 (hb.drop hl.2).1
    have hm := nextX_mem h1
    rw [← h2] at hm
    have hmx : m ≤ x := by
      rcases hm with ⟨s, hs, e⟩ | ⟨s, hs, e⟩
      · have := ha.2 s hs; omega
      · have := hb.2 s hs; omega
    refine ⟨List.pairwise_cons.2 ⟨fun z hz => by have := i2 z hz; omega, i1⟩, fun z hz => ?_, fun z hz => ?_⟩
    · rcases List.mem_cons.1 hz with rfl | hz
      · exact hmx
      · have := i2 z hz; omega
    · rcases List.mem_cons.1 hz with rfl | hz
      · exact hm
      · rcases i3 z hz with ⟨s, hs, e⟩ | ⟨s, hs, e⟩
        · exact .inl ⟨s, dropX_sub _ _ s hs, e⟩
        · exact .inr ⟨s, dropX_sub _ _ s hs, e⟩
/-- The sum of two functions, told at their places. -/
theorem brk_sum : ∀ (xs : List Int) (a b : List (Int × Int)) (m va vb y : Int), Brk a b xs → From m a → From m b → atF (va + vb) (xs.map fun x => (x, atF va a x + atF vb b x)) y = atF va a y + atF vb b y
  | [], a, b, _, va, vb, y, h, _, _ => by rw [h.1, h.2]; rfl
  | x :: xs, a, b, m, va, vb, y, h, ha, hb => by
    obtain ⟨i1, i2, _⟩ := brk_asc (x :: xs) a b m h ha hb
    obtain ⟨h1, h2, h3⟩ := h
    have hl := nextX_le ha hb
    rw [← h2] at hl
    have da := ha.drop hl.1
    have db := hb.drop hl.2
    rw [List.map_cons, atF]
    by_cases hy : x ≤ y
    · rw [if_pos hy, da.2 va y hy, db.2 vb y hy, ← brk_sum xs _ _ (x + 1) (atF va a x) (atF vb b x) y h3 da.1 db.1]
      congr 1
      refine List.map_congr_left fun z hz => ?_
      have hz' := (List.pairwise_cons.1 i1).1 z hz
      rw [da.2 va z (by omega), db.2 vb z (by omega)]
    · rw [if_neg hy, atF_lo a va fun s hs => by have := hl.1 s hs; omega, atF_lo b vb fun s hs => by have := hl.2 s hs; omega]
      refine atF_lo _ _ fun s hs => ?_
      obtain ⟨z, hz, rfl⟩ := List.mem_map.1 hs
      have hz' := (List.pairwise_cons.1 i1).1 z hz
      simp only
      omega
/-! Short steps. -/
def shortG : Int → List (Int × Int) → List (Int × Int)
  | _, [] => []
  | v, s :: l => if s.2 = v then shortG v l else s :: shortG s.2 l
theorem shortG_len : ∀ (l : List (Int × Int)) (v : Int), (shortG v l).length ≤ l.length
  | [], _ => Nat.le_refl _
  | s :: l, v => by
    rw [shortG]
    split
    · have := shortG_len l v; simp only [List.length_cons]; omega
    · have := shortG_len l s.2; simp only [List.length_cons]; omega
theorem shortG_sub : ∀ (l : List (Int × Int)) (v : Int), (shortG v l).Sublist l
  | [], _ => List.Sublist.refl _
  | s :: l, v => by
    rw [shortG]
    split
    · exact (shortG_sub l v).cons _
    · exact (shortG_sub l s.2).cons_cons _
theorem shortG_at (y : Int) : ∀ (l : List (Int × Int)) (v : Int), l.Pairwise (fun p q => p.1 < q.1) → atF v (shortG v l) y = atF v l y
  | [], _, _ => rfl
  | s :: l, v, h => by
    have h1 := List.pairwise_cons.1 h
    rw [shortG, atF]
    split
    · rename_i e
      rw [shortG_at y l v h1.2]
      split
      · rw [e]
      · rfl
    · rw [atF]
      split
      · exact shortG_at y l s.2 h1.2
      · rename_i hy
        rw [atF_lo l v fun t ht => by have := h1.1 t ht; omega, atF_lo _ v fun t ht => by have := h1.1 t ((shortG_sub l s.2).subset ht); omega]
def lastV (pre : List (Int × Int)) : Int := ((pre.getLast?).map (·.2)).getD 0
theorem lastV_snoc (pre : List (Int × Int)) (s : Int × Int) : lastV (pre ++ [s]) = s.2 := by simp [lastV]
theorem shortG_app : ∀ (l m : List (Int × Int)) (v : Int), shortG v (l ++ m) = shortG v l ++ shortG (((l.getLast?).map (·.2)).getD v) m
  | [], m, v => by simp [shortG]
  | s :: l, m, v => by
    have e : ((((s :: l).getLast?).map (·.2)).getD v) = (((l.getLast?).map (·.2)).getD s.2) := by
      rcases l with _ | ⟨t, l⟩
      · rfl
      · rw [List.getLast?_cons_cons]
        cases h : (t :: l).getLast? with
        | none => simp at h
        | some z => rfl
    rw [List.cons_append, shortG, shortG, e]
    split
    · rename_i h
      rw [shortG_app l m v, h]
    · rw [shortG_app l m s.2]; rfl
theorem short_snoc_t {pre : List (Int × Int)} {s : Int × Int} (h : ¬ s.2 = lastV pre) : shortG 0 (pre ++ [s]) = shortG 0 pre ++ [s] := by
  rw [shortG_app]
  unfold lastV at h
  rw [shortG, if_neg h, shortG]
theorem short_snoc_f {pre : List (Int × Int)} {s : Int × Int} (h : s.2 = lastV pre) : shortG 0 (pre ++ [s]) = shortG 0 pre := by
  rw [shortG_app]
  unfold lastV at h
  rw [shortG, if_pos h, shortG, List.append_nil]
/-! The sum. -/
def mapS (a b : List (Int × Int)) (xs : List Int) : List (Int × Int) := xs.map fun x => (x, atF 0 a x + atF 0 b x)
theorem mapS_len (a b : List (Int × Int)) (xs : List Int) : (mapS a b xs).length = xs.length := by simp [mapS]
theorem mapS_snoc (a b : List (Int × Int)) (xs : List Int) (x : Int) : mapS a b (xs ++ [x]) = mapS a b xs ++ [(x, atF 0 a x + atF 0 b x)] := by simp [mapS]
theorem atF_bdd {l : List (Int × Int)} : ∀ (v y : Int), (∀ s ∈ l, 0 ≤ s.2 ∧ s.2 ≤ 1099511627776) → 0 ≤ v ∧ v ≤ 1099511627776 → 0 ≤ atF v l y ∧ atF v l y ≤ 1099511627776 := by
  induction l with
  | nil => exact fun v y _ h => h
  | cons s l ih =>
    intro v y hl hv
    rw [atF]
    refine ih _ y (fun t ht => hl t (by simp [ht])) ?_
    split
    · exact hl s (by simp)
    · exact hv
theorem atF_ok {l : List (Int × Int)} (h : OKSteps l) (y : Int) : 0 ≤ atF 0 l y ∧ atF 0 l y ≤ 1099511627776 := atF_bdd 0 y (fun s hs => (okL_mem h.2 s hs).2) ⟨by omega, by omega⟩
theorem okL_pw : ∀ (l : List (Int × Int)) (p : Option (Int × Int)), okL p l → l.Pairwise (fun p q => p.1 < q.1)
  | [], _, _ => List.Pairwise.nil
  | s :: l, p, h => List.pairwise_cons.2 ⟨fun t ht => okL_head h.2 s rfl t ht, okL_pw l (some s) h.2⟩
theorem okL_of : ∀ (l : List (Int × Int)) (p : Option (Int × Int)), l.Pairwise (fun p q => p.1 < q.1) → (∀ s ∈ l, Place s.1 ∧ 0 ≤ s.2 ∧ s.2 ≤ 1099511627776) → (∀ q, p = some q → ∀ s ∈ l, q.1 < s.1) → okL p l
  | [], _, _, _, _ => trivial
  | s :: l, p, h, h2, h3 => by
    have h1 := List.pairwise_cons.1 h
    have hs := h2 s (by simp)
    exact ⟨⟨hs.1, hs.2.1, hs.2.2, fun q hq => h3 q hq s (by simp)⟩, okL_of l (some s) h1.2 (fun t ht => h2 t (by simp [ht])) (fun q hq t ht => by cases hq; exact h1.1 t ht)⟩
theorem From_ok {l : List (Int × Int)} (h : OKSteps l) : From (-1048576) l := ⟨okL_pw l none h.2, fun s hs => (okL_mem h.2 s hs).1.1⟩
def sumL (a b : List (Int × Int)) (xs : List Int) : List (Int × Int) := shortG 0 (mapS a b xs)
def joinE (a b : List (Int × Int)) (xs : List Int) : Int := if OKSteps a ∧ OKSteps b then (if ∃ s ∈ sumL a b xs, 1099511627776 < s.2 then 5 else if 200 < (sumL a b xs).length then 4 else 0) else 1
def joinV (a b : List (Int × Int)) (xs : List Int) : List (Int × Int) := if joinE a b xs = 0 then sumL a b xs else []
theorem join1 {a b : List (Int × Int)} {xs : List Int} (h : ¬ (OKSteps a ∧ OKSteps b)) : joinE a b xs = 1 ∧ joinV a b xs = [] := by
  have e : joinE a b xs = 1 := if_neg h
  exact ⟨e, if_neg (by omega)⟩
theorem join5 {a b : List (Int × Int)} {xs : List Int} (h : OKSteps a ∧ OKSteps b) (h2 : ∃ s ∈ sumL a b xs, 1099511627776 < s.2) : joinE a b xs = 5 ∧ joinV a b xs = [] := by
  have e : joinE a b xs = 5 := (if_pos h).trans (if_pos h2)
  exact ⟨e, if_neg (by omega)⟩
theorem join4 {a b : List (Int × Int)} {xs : List Int} (h : OKSteps a ∧ OKSteps b) (h2 : ¬ ∃ s ∈ sumL a b xs, 1099511627776 < s.2) (h3 : 200 < (sumL a b xs).length) : joinE a b xs = 4 ∧ joinV a b xs = [] := by
  have e : joinE a b xs = 4 := ((if_pos h).trans (if_neg h2)).trans (if_pos h3)
  exact ⟨e, if_neg (by omega)⟩
theorem join0 {a b : List (Int × Int)} {xs : List Int} (h : OKSteps a ∧ OKSteps b) (h2 : ¬ ∃ s ∈ sumL a b xs, 1099511627776 < s.2) (h3 : ¬ 200 < (sumL a b xs).length) : joinE a b xs = 0 ∧ joinV a b xs = sumL a b xs := by
  have e : joinE a b xs = 0 := ((if_pos h).trans (if_neg h2)).trans (if_neg h3)
  exact ⟨e, if_pos e⟩
/-- What the sum is, where there is one. -/
theorem join_ok {a b : List (Int × Int)} {xs : List Int} (hx : Brk a b xs) (h : joinE a b xs = 0) : OKSteps a ∧ OKSteps b ∧ OKSteps (joinV a b xs) ∧ ∀ y, atF 0 (joinV a b xs) y = atF 0 a y + atF 0 b y := by
  unfold joinE at h
  by_cases h1 : OKSteps a ∧ OKSteps b
  · rw [if_pos h1] at h
    by_cases h2 : ∃ s ∈ sumL a b xs, 1099511627776 < s.2
    · rw [if_pos h2] at h; omega
    · by_cases h3 : 200 < (sumL a b xs).length
      · rw [if_neg h2, if_pos h3] at h; omega
      · have hV := (join0 h1 h2 h3).2
        have ha := From_ok h1.1
        have hb := From_ok h1.2
        obtain ⟨i1, i2, i3⟩ := brk_asc xs a b _ hx ha hb
        have hpw : (mapS a b xs).Pairwise (fun p q => p.1 < q.1) := by
          unfold mapS
          rw [List.pairwise_map]
          exact i1
        have hmem : ∀ s ∈ mapS a b xs, Place s.1 ∧ 0 ≤ s.2 := by
          intro s hs
          obtain ⟨x, hx', rfl⟩ := List.mem_map.1 hs
          have e1 := (atF_ok h1.1 x).1
          have e2 := (atF_ok h1.2 x).1
          refine ⟨?_, by simp only; omega⟩
          rcases i3 x hx' with ⟨t, ht, e⟩ | ⟨t, ht, e⟩
          · rw [e]; exact (okL_mem h1.1.2 t ht).1
          · rw [e]; exact (okL_mem h1.2.2 t ht).1
        rw [hV]
        refine ⟨h1.1, h1.2, ⟨by omega, okL_of _ none (hpw.sublist (shortG_sub _ _)) (fun s hs => ?_) (fun q hq => by cases hq)⟩, fun y => ?_⟩
        · have h4 := hmem s ((shortG_sub _ _).subset hs)
          refine ⟨h4.1, h4.2, ?_⟩
          rcases Int.lt_or_le 1099511627776 s.2 with h5 | h5
          · exact absurd ⟨s, hs, h5⟩ h2
          · exact h5
        · unfold sumL
          rw [shortG_at y _ _ hpw]
          have := brk_sum xs a b (-1048576) 0 0 y hx ha hb
          rwa [show (0 : Int) + 0 = 0 by omega] at this
  · rw [if_neg h1] at h; omega
end Go.Proofs.Ytigjoaejncfmdaa
