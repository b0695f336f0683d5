/-
  Bundles: valid ones, findings.
  Conditions: none.
-/
import Derived.Test.YthpjfkmhpoeojaaDoorBd1
import Derived.Test.YthpjfkmhpoeojaaDoorAmMap
namespace Go.Proofs.YthpjfkmhpoeojaaDoor
open Go Go.AM
set_option linter.unusedSimpArgs false
set_option linter.unusedVariables false
set_option maxRecDepth 100000

def okBun (b : Bundle) : Prop := IsName b.tag ∧ IsName b.mark ∧ 1 ≤ b.count ∧ b.count ≤ 1000 ∧ 0 ≤ b.mass ∧ b.mass ≤ 1099511627776
instance (b) : Decidable (okBun b) := by unfold okBun; infer_instance
def okBuns (l : List Bundle) : Prop := l.length ≤ 1000 ∧ (∀ b ∈ l, okBun b) ∧ l.Pairwise (fun a b => a.tag ≠ b.tag)
instance (l) : Decidable (okBuns l) := by unfold okBuns; infer_instance
def Bundle.w (b : Bundle) : Prop := b.tag.length ≤ 140737488355328 ∧ b.mark.length ≤ 140737488355328
def bunW (l : List Bundle) : Prop := ∀ b ∈ l, b.w
theorem okBun_w {b : Bundle} (h : okBun b) : b.w := by
  have := isName_len h.1
  have := isName_len h.2.1
  exact ⟨by omega, by omega⟩
def tagsM (l : List Bundle) : List (List UInt8 × Bool) := l.map fun c => (c.tag, true)
theorem tags_no {l : List Bundle} {k : List UInt8} (h : (mget (tagsM l) k).getD false = false) : ∀ a ∈ l, a.tag ≠ k := by
  intro a ha e
  have h1 : k ∈ (tagsM l).map (·.1) := by simp only [tagsM, List.map_map, List.mem_map]; exact ⟨a, ha, e⟩
  obtain ⟨v, hv⟩ := Option.isSome_iff_exists.1 ((mget_isSome _ _).2 h1)
  have h2 := mget_mem hv
  simp only [tagsM, List.mem_map, Prod.mk.injEq] at h2
  obtain ⟨_, _, _, rfl⟩ := h2
  rw [hv] at h
  simp at h
theorem tags_yes {l : List Bundle} {k : List UInt8} (h : (mget (tagsM l) k).getD false = true) : ∃ a ∈ l, a.tag = k := by
  cases hm : mget (tagsM l) k with
  | none => rw [hm] at h; simp at h
  | some v =>
    have h2 := mget_mem hm
    simp only [tagsM, List.mem_map, Prod.mk.injEq] at h2
    obtain ⟨a, ha, e, _⟩ := h2
    exact ⟨a, ha, e⟩
theorem tags_snoc {l : List Bundle} {c : Bundle} (h : (mget (tagsM l) c.tag).getD false = false) : mput (tagsM l) c.tag true = tagsM (l ++ [c]) := by
  have hn : mget (tagsM l) c.tag = none := by
    cases hm : mget (tagsM l) c.tag with
    | none => rfl
    | some v =>
      have h2 := mget_mem hm
      simp only [tagsM, List.mem_map, Prod.mk.injEq] at h2
      obtain ⟨_, _, _, rfl⟩ := h2
      rw [hm] at h
      simp at h
  rw [mput_none true hn]
  simp [tagsM]
theorem buns_cut {pre suf l : List Bundle} {s : Bundle} (hp : pre ++ s :: suf = l) (h : okBuns l) : okBun s ∧ ∀ a ∈ pre, a.tag ≠ s.tag := by
  obtain ⟨h1, h2, h3⟩ := h
  refine ⟨h2 s (by rw [← hp]; simp), fun a ha => ?_⟩
  rw [← hp, List.pairwise_append] at h3
  exact h3.2.2 a ha s (by simp)
theorem buns_snoc {pre : List Bundle} {s : Bundle} (h : (∀ c ∈ pre, okBun c) ∧ pre.Pairwise (fun a b => a.tag ≠ b.tag)) (h1 : okBun s) (h2 : ∀ a ∈ pre, a.tag ≠ s.tag) :
    (∀ c ∈ pre ++ [s], okBun c) ∧ (pre ++ [s]).Pairwise (fun a b => a.tag ≠ b.tag) := by
  refine ⟨fun b hb => ?_, List.pairwise_append.2 ⟨h.2, by simp, fun a ha b hb => ?_⟩⟩
  · rcases List.mem_append.1 hb with hb | hb
    · exact h.1 b hb
    · simp at hb; subst hb; exact h1
  · simp at hb; subst hb
    exact h2 a ha
theorem idxP_at {T : Type} {p : T → Bool} {pre suf l : List T} {s : T} (hp : pre ++ s :: suf = l) (hs : p s = true) : idxP p l 0 = pre.length ↔ ∀ a ∈ pre, p a = false := by
  constructor
  · intro h a ha
    cases hpa : p a with
    | false => rfl
    | true =>
      obtain ⟨p1, p2, rfl⟩ := List.append_of_mem ha
      have hle : ∀ (q : List T) (k : Int) (r : List T), idxP p (q ++ a :: r) k ≤ k + q.length := by
        intro q
        induction q with
        | nil => intro k r; rw [List.nil_append, idxP, if_pos hpa]; simp
        | cons x q ih =>
          intro k r
          rw [List.cons_append, idxP]
          split
          · simp only [List.length_cons]; omega
          · have := ih (k + 1) r
            simp only [List.length_cons]; omega
      have h2 := hle p1 0 (p2 ++ s :: suf)
      rw [← List.cons_append, ← List.append_assoc, hp, h] at h2
      simp only [List.length_append, List.length_cons] at h2
      omega
  · intro h
    rw [← hp, idxP_append _ pre _ 0 h, idxP, if_pos hs]
    omega
def tagI (l : List Bundle) (t : List UInt8) : Int := idxP (fun b => decide (b.tag = t)) l 0
def massSum (l : List Bundle) : Int := l.foldl (fun a b => a + b.mass) 0
theorem massSum_snoc (l : List Bundle) (s : Bundle) : massSum (l ++ [s]) = massSum l + s.mass := by simp [massSum]
theorem massSum_bd : ∀ (l : List Bundle), (∀ b ∈ l, okBun b) → 0 ≤ massSum l ∧ massSum l ≤ 1099511627776 * l.length := by
  refine snoc_ind (fun _ => by decide) ?_
  intro l s ih h
  obtain ⟨i1, i2⟩ := ih (fun b hb => h b (by simp [hb]))
  have hs := h s (by simp)
  have h5 := hs.2.2.2.2.1
  have h6 := hs.2.2.2.2.2
  rw [massSum_snoc, List.length_append, List.length_singleton]
  omega
/-- How many bars of a mark are in bundles. -/
def barsOf (l : List Bundle) (k : List UInt8) : Int := l.foldl (fun a b => if b.mark = k then a + b.count else a) 0
theorem barsOf_snoc (l : List Bundle) (s : Bundle) (k : List UInt8) : barsOf (l ++ [s]) k = if s.mark = k then barsOf l k + s.count else barsOf l k := by simp [barsOf]
theorem barsOf_bd (k : List UInt8) : ∀ (l : List Bundle), (∀ b ∈ l, okBun b) → 0 ≤ barsOf l k ∧ barsOf l k ≤ 1000 * l.length := by
  refine snoc_ind (fun _ => by simp [barsOf]) ?_
  intro l s ih h
  obtain ⟨i1, i2⟩ := ih (fun b hb => h b (by simp [hb]))
  have hs := h s (by simp)
  have h5 := hs.2.2.1
  have h6 := hs.2.2.2.1
  rw [barsOf_snoc, List.length_append, List.length_singleton]
  split <;> omega
def cntM (l : List Bundle) : List (List UInt8 × Int) := l.foldl (fun q b => mput q b.mark (barsOf [] b.mark + (mget q b.mark).getD 0 + b.count)) []
theorem cntM_snoc (l : List Bundle) (s : Bundle) : cntM (l ++ [s]) = mput (cntM l) s.mark ((mget (cntM l) s.mark).getD 0 + s.count) := by simp [cntM, barsOf]
theorem cntM_get : ∀ (l : List Bundle) (k : List UInt8), (mget (cntM l) k).getD 0 = barsOf l k := by
  refine snoc_ind (fun k => rfl) ?_
  intro l s ih k
  rw [cntM_snoc, mget_mput, barsOf_snoc]
  by_cases h : k = s.mark
  · subst h
    rw [if_pos rfl, if_pos rfl, ih]; rfl
  · rw [if_neg h, if_neg (fun e => h e.symm), ih]
theorem cntM_len : ∀ (l : List Bundle), (cntM l).length ≤ l.length := by
  refine snoc_ind (Nat.le_refl _) ?_
  intro l s ih
  have := mput_length_le (cntM l) s.mark ((mget (cntM l) s.mark).getD 0 + s.count)
  rw [cntM_snoc, List.length_append, List.length_singleton]
  omega
def masM (l : List Bar) : List (List UInt8 × Int) := l.map fun b => (b.mark, oneOf b)
theorem masM_none {l : List Bar} {k : List UInt8} (h : ∀ b ∈ l, b.mark ≠ k) : mget (masM l) k = none := by
  cases hm : mget (masM l) k with
  | none => rfl
  | some v =>
    have h2 := mget_mem hm
    simp only [masM, List.mem_map, Prod.mk.injEq] at h2
    obtain ⟨b, hb, e, _⟩ := h2
    exact absurd e (h b hb)
theorem masM_snoc {pre suf l : List Bar} {s : Bar} (hp : pre ++ s :: suf = l) (h : okSched l) : mput (masM pre) s.mark (oneOf s) = masM (pre ++ [s]) := by
  have h1 := (markI_at hp).1 (sched_cut hp h).2
  rw [mput_none _ (masM_none h1)]
  simp [masM]
theorem masM_get {l : List Bar} (h : okSched l) (k : List UInt8) : (markI l k < 0 ∧ mget (masM l) k = none) ∨ (0 ≤ markI l k ∧ ∃ b, l[(markI l k).toNat]? = some b ∧ b ∈ l ∧ b.mark = k ∧ mget (masM l) k = some (oneOf b)) := by
  by_cases h0 : 0 ≤ markI l k
  · right
    obtain ⟨_, b, h2, h3⟩ := idxP_get (fun b : Bar => decide (b.mark = k)) l 0 (Int.le_refl _) h0
    have hb := List.mem_of_getElem? h2
    refine ⟨h0, b, by unfold markI; simpa using h2, hb, of_decide_eq_true h3, ?_⟩
    refine mget_of_mem ?_ ?_
    · simp only [masM, List.map_map]
      rw [List.Nodup, List.pairwise_map]
      exact h.2.2
    · simp only [masM, List.mem_map, Prod.mk.injEq]
      exact ⟨b, hb, of_decide_eq_true h3, rfl⟩
  · left
    refine ⟨by omega, masM_none fun b hb e => ?_⟩
    exact h0 ((idxP_nonneg _ l 0 (Int.le_refl _)).2 ⟨b, hb, decide_eq_true e⟩)
/-- The findings of a line, and of a bundle. -/
def find1 (l : List Bundle) (b : Bar) : List (Int × List UInt8) := if barsOf l b.mark < b.count then [(1, b.mark)] else if b.count < barsOf l b.mark then [(2, b.mark)] else []
def find2 (bars : List Bar) (x : Bundle) : List (Int × List UInt8) := match mget (masM bars) x.mark with
  | none => [(3, x.tag)]
  | some m => if x.mass = x.count * m then [] else [(4, x.tag)]
def fnd1 (l : List Bundle) (bars : List Bar) : List (Int × List UInt8) := (bars.map (find1 l)).flatten
def fnd2 (bars : List Bar) (l : List Bundle) : List (Int × List UInt8) := (l.map (find2 bars)).flatten
theorem fnd1_snoc (l : List Bundle) (p : List Bar) (s : Bar) : fnd1 l (p ++ [s]) = fnd1 l p ++ find1 l s := by simp [fnd1]
theorem fnd2_snoc (bars : List Bar) (p : List Bundle) (s : Bundle) : fnd2 bars (p ++ [s]) = fnd2 bars p ++ find2 bars s := by simp [fnd2]
theorem fnd1_len (l : List Bundle) : ∀ p : List Bar, (fnd1 l p).length ≤ p.length := by
  refine snoc_ind (Nat.le_refl _) ?_
  intro p s ih
  rw [fnd1_snoc, List.length_append, List.length_append, List.length_singleton]
  have : (find1 l s).length ≤ 1 := by
    unfold find1
    split
    · simp
    · split <;> simp
  omega
theorem fnd2_len (bars : List Bar) : ∀ p : List Bundle, (fnd2 bars p).length ≤ p.length := by
  refine snoc_ind (Nat.le_refl _) ?_
  intro p s ih
  rw [fnd2_snoc, List.length_append, List.length_append, List.length_singleton]
  have : (find2 bars s).length ≤ 1 := by
    unfold find2
    split
    · simp
    · split <;> simp
  omega
def checkP (bars : List Bar) (l : List Bundle) : List (Int × List UInt8) := fnd1 l bars ++ fnd2 bars l
def chkE (bars : List Bar) (l : List Bundle) : Int := if okSched bars ∧ okBuns l then 0 else 1
def chkV (bars : List Bar) (l : List Bundle) : List (Int × List UInt8) := if okSched bars ∧ okBuns l then checkP bars l else []
def bunsE (l : List Bundle) : Int := if okBuns l then 0 else 1
def massV (l : List Bundle) : Int := if okBuns l then massSum l else 0
def findE (l : List Bundle) (t : List UInt8) : Int := if okBuns l then (if tagI l t < 0 then 9 else 0) else 1
def findV (l : List Bundle) (t : List UInt8) : Int := if okBuns l then (if tagI l t < 0 then 0 else tagI l t) else 0
end Go.Proofs.YthpjfkmhpoeojaaDoor
