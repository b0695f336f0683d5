/-
  Short orders: plain laws.
  Conditions: none.
-/
import Derived.Test.YtaggnajjmopobaaKs1
namespace Go.Proofs.Ytaggnajjmopobaa
open Go Go.AM
set_option linter.unusedSimpArgs false
set_option linter.unusedVariables false
set_option maxRecDepth 100000

def okPc (p : Int × Int) : Prop := 1 ≤ p.1 ∧ p.1 ≤ 1048576 ∧ 1 ≤ p.2 ∧ p.2 ≤ 1000000
instance (p) : Decidable (okPc p) := by unfold okPc; infer_instance
def SkHas (l : List (Int × Int)) (n : Int) : Prop := ∃ b ∈ l, b.1 = n
instance (l n) : Decidable (SkHas l n) := by unfold SkHas; infer_instance
def skCnt (l : List (Int × Int)) (n : Int) : Int := (l.map fun b => if b.1 = n then b.2 else 0).sum
theorem skCnt_snoc (l : List (Int × Int)) (s : Int × Int) (n : Int) : skCnt (l ++ [s]) n = skCnt l n + (if s.1 = n then s.2 else 0) := by simp [skCnt]
theorem skHas_snoc (l : List (Int × Int)) (s : Int × Int) (n : Int) : SkHas (l ++ [s]) n ↔ SkHas l n ∨ s.1 = n := by
  unfold SkHas
  constructor
  · rintro ⟨b, hb, h⟩
    rcases List.mem_append.1 hb with hb | hb
    · exact .inl ⟨b, hb, h⟩
    · rw [List.mem_singleton] at hb; subst hb; exact .inr h
  · rintro (⟨b, hb, h⟩ | h)
    · exact ⟨b, List.mem_append_left _ hb, h⟩
    · exact ⟨s, by simp, h⟩
theorem skCnt_no {l : List (Int × Int)} {n : Int} (h : ¬ SkHas l n) : skCnt l n = 0 := by
  induction l with
  | nil => rfl
  | cons b l ih =>
    have h1 : ¬ b.1 = n := fun e => h ⟨b, by simp, e⟩
    have h2 := ih fun ⟨x, hx, e⟩ => h ⟨x, List.mem_cons_of_mem _ hx, e⟩
    rw [skCnt] at h2 ⊢
    rw [List.map_cons, List.sum_cons, if_neg h1, h2]
    rfl
theorem skCnt_bd (n : Int) : ∀ l : List (Int × Int), (∀ b ∈ l, okPc b) → 0 ≤ skCnt l n ∧ skCnt l n ≤ 1000000 * l.length := by
  refine snoc_ind (fun _ => by simp [skCnt]) ?_
  intro l s ih h
  obtain ⟨i1, i2⟩ := ih fun b hb => h b (by simp [hb])
  obtain ⟨_, _, h3, h4⟩ := h s (by simp)
  rw [skCnt_snoc, List.length_append, List.length_singleton]
  split <;> omega
theorem skCnt_pos {l : List (Int × Int)} (hok : ∀ b ∈ l, okPc b) {n : Int} (h : SkHas l n) : 1 ≤ skCnt l n := by
  induction l with
  | nil => obtain ⟨b, hb, _⟩ := h; cases hb
  | cons b l ih =>
    have h1 := (hok b (by simp)).2.2.1
    have h2 := (skCnt_bd n l (fun x hx => hok x (by simp [hx]))).1
    rw [skCnt] at h2 ⊢
    rw [List.map_cons, List.sum_cons]
    by_cases e : b.1 = n
    · rw [if_pos e]; omega
    · obtain ⟨x, hx, ex⟩ := h
      rcases List.mem_cons.1 hx with rfl | hx
      · exact absurd ex e
      · have := ih (fun x hx => hok x (by simp [hx])) ⟨x, hx, ex⟩
        rw [skCnt] at this
        rw [if_neg e]; omega
def skMax (l : List (Int × Int)) (below : Int) : Int := l.foldl (fun m b => if b.1 < below ∧ m < b.1 then b.1 else m) 0
theorem skMax_snoc (l : List (Int × Int)) (s : Int × Int) (below : Int) : skMax (l ++ [s]) below = if s.1 < below ∧ skMax l below < s.1 then s.1 else skMax l below := by rw [skMax, List.foldl_append]; rfl
theorem skMax_spec (below : Int) : ∀ l : List (Int × Int), 0 ≤ skMax l below ∧ (skMax l below ≠ 0 → SkHas l (skMax l below) ∧ skMax l below < below) ∧ ∀ b ∈ l, b.1 < below → b.1 ≤ skMax l below := by
  refine snoc_ind ⟨by simp [skMax], fun h => absurd rfl h, fun b hb => (by cases hb)⟩ ?_
  intro l s ⟨i0, i1, i2⟩
  rw [skMax_snoc]
  by_cases h : s.1 < below ∧ skMax l below < s.1
  · rw [if_pos h]
    refine ⟨by omega, fun _ => ⟨(skHas_snoc l s _).2 (.inr rfl), h.1⟩, fun b hb h2 => ?_⟩
    rcases List.mem_append.1 hb with hb | hb
    · have := i2 b hb h2; omega
    · rw [List.mem_singleton] at hb; subst hb; omega
  · rw [if_neg h]
    refine ⟨i0, fun h0 => ⟨(skHas_snoc l s _).2 (.inl (i1 h0).1), (i1 h0).2⟩, fun b hb h2 => ?_⟩
    rcases List.mem_append.1 hb with hb | hb
    · exact i2 b hb h2
    · rw [List.mem_singleton] at hb; subst hb; omega
def skAt (l : List (Int × Int)) (below : Int) : List (Int × Int) :=
  if h : skMax l below = 0 then [] else (skMax l below, skCnt l (skMax l below)) :: skAt l (skMax l below)
termination_by below.toNat
decreasing_by
  obtain ⟨h0, h1, _⟩ := skMax_spec below l
  have := (h1 h).2
  omega
theorem skAt_nil {l : List (Int × Int)} {below : Int} (h : skMax l below = 0) : skAt l below = [] := by rw [skAt, dif_pos h]
theorem skAt_cons {l : List (Int × Int)} {below : Int} (h : ¬ skMax l below = 0) : skAt l below = (skMax l below, skCnt l (skMax l below)) :: skAt l (skMax l below) := by rw [skAt, dif_neg h]
theorem skAt_spec (l : List (Int × Int)) : ∀ (k : Nat) (below : Int), below.toNat ≤ k → (∀ p, p ∈ skAt l below ↔ (SkHas l p.1 ∧ 0 < p.1 ∧ p.1 < below) ∧ p.2 = skCnt l p.1) ∧ (skAt l below).Pairwise (fun x y => y.1 < x.1) := by
  intro k
  induction k with
  | zero =>
    intro below hb
    obtain ⟨h0, h1, h2⟩ := skMax_spec below l
    have hz : skMax l below = 0 := Classical.byContradiction fun h => by have := (h1 h).2; omega
    rw [skAt_nil hz]
    refine ⟨fun p => ⟨fun h => (by cases h), fun h => by have := h.1.2; omega⟩, List.Pairwise.nil⟩
  | succ k ih =>
    intro below hb
    obtain ⟨h0, h1, h2⟩ := skMax_spec below l
    by_cases hz : skMax l below = 0
    · rw [skAt_nil hz]
      refine ⟨fun p => ⟨fun h => (by cases h), fun h => ?_⟩, List.Pairwise.nil⟩
      obtain ⟨⟨⟨b, hb1, hb3⟩, hp, hp2⟩, _⟩ := h
      have := h2 b hb1 (by omega)
      omega
    · rw [skAt_cons hz]
      obtain ⟨hm1, hm2⟩ := h1 hz
      obtain ⟨j1, j2⟩ := ih (skMax l below) (by omega)
      refine ⟨fun p => ?_, List.pairwise_cons.2 ⟨fun y hy => ((j1 y).1 hy).1.2.2, j2⟩⟩
      rw [List.mem_cons, j1]
      constructor
      · rintro (rfl | ⟨⟨g1, g2, g3⟩, g4⟩)
        · exact ⟨⟨hm1, by simp only; omega, hm2⟩, rfl⟩
        · exact ⟨⟨g1, g2, by omega⟩, g4⟩
      · rintro ⟨⟨g1, g2, g3⟩, g4⟩
        by_cases e : p.1 = skMax l below
        · left
          rw [← e, ← g4]
        · right
          obtain ⟨b, hb1, hb3⟩ := g1
          have := h2 b hb1 (by omega)
          exact ⟨⟨⟨b, hb1, hb3⟩, g2, by omega⟩, g4⟩
/-- The short order. -/
def skP (l : List (Int × Int)) : List (Int × Int) := skAt l 1048577
theorem skP_mem {l : List (Int × Int)} (hok : ∀ b ∈ l, okPc b) (p : Int × Int) : p ∈ skP l ↔ SkHas l p.1 ∧ p.2 = skCnt l p.1 := by
  rw [skP, (skAt_spec l _ _ (Nat.le_refl _)).1 p]
  constructor
  · exact fun h => ⟨h.1.1, h.2⟩
  · rintro ⟨⟨b, h1, h3⟩, h4⟩
    obtain ⟨g1, g2, _⟩ := hok b h1
    exact ⟨⟨⟨b, h1, h3⟩, by omega, by omega⟩, h4⟩
theorem skP_sorted (l : List (Int × Int)) : (skP l).Pairwise (fun x y => y.1 < x.1) := (skAt_spec l _ _ (Nat.le_refl _)).2
theorem desc_ext : ∀ {p q : List (Int × Int)}, p.Pairwise (fun x y => y.1 < x.1) → q.Pairwise (fun x y => y.1 < x.1) → (∀ x, x ∈ p ↔ x ∈ q) → p = q
  | [], [], _, _, _ => rfl
  | [], y :: q, _, _, h => by have := (h y).2 (by simp); cases this
  | x :: p, [], _, _, h => by have := (h x).1 (by simp); cases this
  | x :: p, y :: q, hp, hq, h => by
    rw [List.pairwise_cons] at hp hq
    have hxy : x = y := by
      rcases List.mem_cons.1 ((h x).1 (by simp)) with e | e
      · exact e
      · rcases List.mem_cons.1 ((h y).2 (by simp)) with e' | e'
        · exact e'.symm
        · have := hq.1 x e; have := hp.1 y e'; omega
    subst hxy
    have : p = q := desc_ext hp.2 hq.2 fun z => by
      constructor
      · intro hz
        rcases List.mem_cons.1 ((h z).1 (List.mem_cons_of_mem _ hz)) with e | e
        · have := hp.1 z hz; subst e; omega
        · exact e
      · intro hz
        rcases List.mem_cons.1 ((h z).2 (List.mem_cons_of_mem _ hz)) with e | e
        · have := hq.1 z hz; subst e; omega
        · exact e
    rw [this]
/-! The same by a map. -/
def skM (l : List (Int × Int)) : List (Int × Int) := l.foldl (fun m b => mput m b.1 ((mget m b.1).getD 0 + b.2)) []
theorem skM_snoc (l : List (Int × Int)) (s : Int × Int) : skM (l ++ [s]) = mput (skM l) s.1 ((mget (skM l) s.1).getD 0 + s.2) := by simp [skM, List.foldl_append]
theorem skM_spec : ∀ l : List (Int × Int), ((skM l).map (·.1)).Nodup ∧ (skM l).length ≤ l.length ∧ ∀ n, mget (skM l) n = if SkHas l n then some (skCnt l n) else none := by
  refine snoc_ind ⟨by simp [skM], by simp [skM], fun n => by rw [if_neg (by rintro ⟨b, hb, _⟩; cases hb)]; rfl⟩ ?_
  intro l s ⟨i1, i2, i3⟩
  rw [skM_snoc]
  refine ⟨mput_nodup i1 _ _, by have := mput_length_le (skM l) s.1 ((mget (skM l) s.1).getD 0 + s.2); simp only [List.length_append, List.length_singleton]; omega, fun n => ?_⟩
  rw [mget_mput, i3 s.1, i3 n, skCnt_snoc]
  by_cases hn : n = s.1
  · subst hn
    rw [if_pos rfl, if_pos ((skHas_snoc l s _).2 (.inr rfl)), if_pos rfl]
    by_cases hh : SkHas l s.1
    · rw [if_pos hh]; rfl
    · rw [if_neg hh, skCnt_no hh]; rfl
  · rw [if_neg hn, if_neg (show ¬ s.1 = n from fun e => hn e.symm), Int.add_zero]
    by_cases hh : SkHas l n
    · rw [if_pos hh, if_pos ((skHas_snoc l s n).2 (.inl hh))]
    · rw [if_neg hh, if_neg (fun e => ((skHas_snoc l s n).1 e).elim hh (fun e => hn e.symm))]
theorem skM_get (l : List (Int × Int)) (n : Int) : (mget (skM l) n).getD 0 = skCnt l n := by
  rw [(skM_spec l).2.2 n]
  by_cases h : SkHas l n
  · rw [if_pos h]; rfl
  · rw [if_neg h, skCnt_no h]; rfl
theorem skM_mem (l : List (Int × Int)) (p : Int × Int) : p ∈ skM l ↔ SkHas l p.1 ∧ p.2 = skCnt l p.1 := by
  obtain ⟨i1, _, i3⟩ := skM_spec l
  have h3 := i3 p.1
  constructor
  · intro h
    rw [mget_of_mem i1 (k := p.1) (v := p.2) h] at h3
    by_cases hh : SkHas l p.1
    · rw [if_pos hh] at h3
      exact ⟨hh, by simpa using h3⟩
    · rw [if_neg hh] at h3; cases h3
  · rintro ⟨hh, e⟩
    rw [if_pos hh, ← e] at h3
    exact mget_mem h3
theorem skM_keys {l : List (Int × Int)} (hok : ∀ b ∈ l, okPc b) : dkeys (skM l) = (skP l).map Prod.fst := by
  have hs := dkeys_sorted (skM l)
  have hnd : (dkeys (skM l)).Nodup := (dkeys_perm (skM l)).nodup_iff.2 (skM_spec l).1
  have hs2 : (dkeys (skM l)).Pairwise fun x y => y < x := (hs.and hnd).imp fun ⟨h1, h2⟩ => by omega
  have hp : ((skP l).map Prod.fst).Pairwise fun x y => y < x := by rw [List.pairwise_map]; exact skP_sorted l
  have hperm : (dkeys (skM l)).Perm ((skP l).map Prod.fst) := by
    refine (List.perm_ext_iff_of_nodup hnd ?_).2 fun n => ?_
    · exact hp.imp fun h e => by omega
    · rw [(dkeys_perm (skM l)).mem_iff, List.mem_map, List.mem_map]
      constructor
      · rintro ⟨p, hp, rfl⟩
        exact ⟨p, (skP_mem hok p).2 ((skM_mem l p).1 hp), rfl⟩
      · rintro ⟨p, hp, rfl⟩
        exact ⟨p, (skM_mem l p).2 ((skP_mem hok p).1 hp), rfl⟩
  exact hperm.eq_of_pairwise (fun a b _ _ h1 h2 => by omega) hs2 hp
theorem skP_len {l : List (Int × Int)} (hok : ∀ b ∈ l, okPc b) : (skP l).length ≤ l.length := by
  have h1 := congrArg List.length (skM_keys hok)
  have h2 := (dkeys_perm (skM l)).length_eq
  have h3 := (skM_spec l).2.1
  rw [List.length_map] at h1 h2
  omega
/-- An order whose numbers are not too great. -/
def shG (l : List (Int × Int)) : Prop := ∀ p ∈ skP l, p.2 ≤ 1000000
instance (l) : Decidable (shG l) := by unfold shG; infer_instance
def shV (l : List (Int × Int)) : List (Int × Int) := if shG l then skP l else []
def shE (l : List (Int × Int)) : Int := if shG l then 0 else 5

end Go.Proofs.Ytaggnajjmopobaa
