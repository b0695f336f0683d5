/-
  Short orders of short orders.
  Conditions: none.
-/
import Derived.Test.YtckahagagfmpbaaRp3
import Derived.Test.YtckahagagfmpbaaSw3
namespace Go.Proofs.Ytckahagagfmpbaa
open Go Go.AM
set_option linter.unusedSimpArgs false
set_option linter.unusedVariables false
set_option maxRecDepth 100000

theorem skP_nodup (l : List (Int × Int)) : ((skP l).map (·.1)).Nodup := by
  rw [List.Nodup, List.pairwise_map]
  exact (skP_sorted l).imp fun h e => by omega
theorem skCnt_P {l : List (Int × Int)} (hok : ∀ b ∈ l, okPc b) (n : Int) : skCnt (skP l) n = skCnt l n := by
  by_cases hh : SkHas l n
  · have hm : n ∈ (skP l).map (·.1) := List.mem_map.2 ⟨(n, skCnt l n), (skP_mem hok _).2 ⟨hh, rfl⟩, rfl⟩
    refine Eq.trans ?_ (sum_one (fun p : Int × Int => p.1) n (skCnt l n) (skP l) (skP_nodup l) hm)
    unfold skCnt
    congr 1
    refine List.map_congr_left fun p hp => ?_
    by_cases e : p.1 = n
    · rw [if_pos e, if_pos e, ((skP_mem hok p).1 hp).2, e]; rfl
    · rw [if_neg e, if_neg e]
  · rw [skCnt_no hh]
    refine sum_nn0 _ _ fun p hp => if_neg fun e => hh ?_
    have := ((skP_mem hok p).1 hp).1
    rwa [e] at this
theorem skHas_P {l : List (Int × Int)} (hok : ∀ b ∈ l, okPc b) (n : Int) : SkHas (skP l) n ↔ SkHas l n := by
  constructor
  · rintro ⟨p, hp, rfl⟩
    exact ((skP_mem hok p).1 hp).1
  · intro h
    exact ⟨(n, skCnt l n), (skP_mem hok _).2 ⟨h, rfl⟩, rfl⟩
theorem skP_idem {l : List (Int × Int)} (hok : ∀ b ∈ l, okPc b) (hg : shG l) : skP (skP l) = skP l :=
  desc_ext (skP_sorted _) (skP_sorted _) fun p => by rw [skP_mem (skP_ok hok hg), skP_mem hok, skHas_P hok, skCnt_P hok]
theorem s_ok {l : List (Int × Int)} (h : sE l = 0) : okOrd l ∧ shG l ∧ sV l = skP l ∧ okOrd (skP l) ∧ sV (skP l) = skP l ∧ sE (skP l) = 0 := by
  unfold sE at h
  by_cases h1 : okOrd l
  · rw [if_pos h1] at h
    by_cases h2 : shG l
    · have hl := skP_len h1.2
      have hl2 := h1.1
      have h3 : okOrd (skP l) := ⟨by omega, skP_ok h1.2 h2⟩
      have e := skP_idem h1.2 h2
      have h4 : shG (skP l) := by unfold shG; rw [e]; exact h2
      exact ⟨h1, h2, (if_pos h1).trans (if_pos h2), h3, (if_pos h3).trans ((if_pos h4).trans e), (if_pos h3).trans (if_pos h4)⟩
    · rw [show shE l = 5 from if_neg h2] at h; cases h
  · rw [if_neg h1] at h; cases h
theorem s_ne {l : List (Int × Int)} (h : ¬ sE l = 0) : (sV l).length = 0 := by
  unfold sE at h
  unfold sV
  by_cases h1 : okOrd l
  · rw [if_pos h1] at h ⊢
    by_cases h2 : shG l
    · exact absurd (if_pos h2) h
    · rw [show shV l = [] from if_neg h2]; rfl
  · rw [if_neg h1]; rfl


theorem skP_num {l : List (Int × Int)} (hok : ∀ b ∈ l, okPc b) : numP (skP l) = numP l := by
  have e1 : (skP l).map (fun p => p.2) = (skP l).map fun p => (l.map fun b => if p.1 = b.1 then b.2 else 0).sum := by
    refine List.map_congr_left fun p hp => ?_
    rw [((skP_mem hok p).1 hp).2, skCnt]
    congr 1
    refine List.map_congr_left fun b _ => ?_
    by_cases e : b.1 = p.1
    · rw [if_pos e, if_pos e.symm]
    · rw [if_neg e, if_neg (fun h => e h.symm)]
  rw [numP, e1, sum_swap (fun (p b : Int × Int) => if p.1 = b.1 then b.2 else 0) l (skP l), numP]
  congr 1
  refine List.map_congr_left fun b hb => ?_
  refine sum_one (fun p : Int × Int => p.1) b.1 b.2 (skP l) (skP_nodup l) ?_
  exact List.mem_map.2 ⟨(b.1, skCnt l b.1), (skP_mem hok _).2 ⟨⟨b, hb, rfl⟩, rfl⟩, rfl⟩
theorem count_listP (x : Int) : ∀ l : List (Int × Int), (∀ b ∈ l, okPc b) → (((listP l).count x : Nat) : Int) = skCnt l x := by
  refine snoc_ind (fun _ => by simp [listP, skCnt]) ?_
  intro l s ih h
  have i1 := ih fun b hb => h b (by simp [hb])
  obtain ⟨h1, h2, h3, h4⟩ := h s (by simp)
  rw [listP_snoc, skCnt_snoc, List.count_append, List.count_replicate]
  by_cases e : s.1 = x
  · simp only [e, beq_self_eq_true, if_true]; omega
  · simp only [e, beq_iff_eq, if_false]; omega
theorem listP_perm {l : List (Int × Int)} (hok : ∀ b ∈ l, okPc b) (hg : shG l) : (listP (skP l)).Perm (listP l) := by
  rw [List.perm_iff_count]
  intro x
  have h1 := count_listP x l hok
  have h2 := count_listP x (skP l) (skP_ok hok hg)
  rw [skCnt_P hok] at h2
  omega
theorem listP_desc : ∀ {l : List (Int × Int)}, l.Pairwise (fun x y => y.1 < x.1) → (listP l).Pairwise (fun x y => y ≤ x)
  | [], _ => List.Pairwise.nil
  | p :: l, h => by
    rw [List.pairwise_cons] at h
    have e : listP (p :: l) = List.replicate p.2.toNat p.1 ++ listP l := by simp [listP]
    rw [e, List.pairwise_append]
    refine ⟨List.pairwise_replicate.2 (.inr (Int.le_refl _)), listP_desc h.2, fun x hx y hy => ?_⟩
    rw [List.eq_of_mem_replicate hx]
    simp only [listP, List.mem_flatMap] at hy
    obtain ⟨q, hq, hy⟩ := hy
    rw [List.eq_of_mem_replicate hy]
    have := h.1 q hq
    omega
theorem sorted_list {l : List (Int × Int)} (hok : ∀ b ∈ l, okPc b) (hg : shG l) : ((listP l).mergeSort fun x y => decide (x ≤ y)).reverse = listP (skP l) := by
  have h := List.pairwise_mergeSort (le := fun x y : Int => decide (x ≤ y)) (fun a b c h1 h2 => by rw [decide_eq_true_eq] at *; omega) (fun a b => by rw [Bool.or_eq_true, decide_eq_true_eq, decide_eq_true_eq]; omega) (listP l)
  refine (((List.reverse_perm _).trans (List.mergeSort_perm _ _)).trans (listP_perm hok hg).symm).eq_of_pairwise (fun a b _ _ h1 h2 => by omega) ?_ (listP_desc (skP_sorted l))
  rw [List.pairwise_reverse]
  exact h.imp fun h => by simpa using h

end Go.Proofs.Ytckahagagfmpbaa
