/-
  Bundles: a greater greatest mass.
  Conditions: none.
-/
import Derived.Test.YthpjfkmhpoeojaaDoorBd1
namespace Go.Proofs.YthpjfkmhpoeojaaDoor
open Go Go.AM
set_option linter.unusedSimpArgs false
set_option linter.unusedVariables false
set_option maxRecDepth 100000

theorem chunks_mono {w w' : Int} (hw : 0 < w) (hww : w ≤ w') : ∀ (n : Nat) (left left' : Int), left = n → left' ≤ left → (chunks w' left').length ≤ (chunks w left).length := by
  intro n
  induction n using Nat.strongRecOn with
  | _ n ih =>
    intro left left' hl hll
    by_cases h : 0 < left'
    · rw [chunks_pos h (by omega), chunks_pos (by omega) hw, List.length_cons, List.length_cons]
      have := ih (left - min left w).toNat (by omega) (left - min left w) (left' - min left' w') (by omega) (by omega)
      omega
    · rw [chunks_zero w' (by omega)]
      exact Nat.zero_le _
theorem chunks_one {w left : Int} (h0 : 0 < left) (h : left ≤ w) : chunks w left = [left] := by
  rw [chunks_pos h0 (by omega), chunks_zero w (by omega), show min left w = left by omega]
theorem unitsB_mono {most most' : Int} {b : Bar} (h : okBar b) (hm : oneOf b ≤ most) (hmm : most ≤ most') : (unitsB most' b).length ≤ (unitsB most b).length := by
  rw [unitsB, unitsB, List.length_map, List.length_map]
  obtain ⟨h1, _⟩ := one_bd h
  have h2 := h.2.2.1
  exact chunks_mono (whole_pos h hm).1 (Int.ediv_le_ediv (by omega) hmm) b.count.toNat b.count b.count (by omega) (Int.le_refl _)
theorem not_over2 {most : Int} {l : List Bar} (h : ¬ overP most l) : ∀ b ∈ l, oneOf b ≤ most := by
  intro b hb
  by_cases h1 : most < oneOf b
  · exact absurd ⟨b, hb, decide_eq_true h1⟩ h
  · omega
theorem units_mono {most most' : Int} (hmm : most ≤ most') : ∀ (l : List Bar), (∀ b ∈ l, okBar b) → (∀ b ∈ l, oneOf b ≤ most) → (units most' l).length ≤ (units most l).length
  | [], _, _ => by simp [units]
  | b :: l, h, hm => by
    have h1 := units_mono hmm l (fun x hx => h x (by simp [hx])) (fun x hx => hm x (by simp [hx]))
    have h2 := unitsB_mono (h b (by simp)) (hm b (by simp)) hmm
    simp only [units, List.map_cons, List.flatten_cons, List.length_append] at h1 ⊢
    omega
theorem units_whole : ∀ (l : List Bar), (∀ b ∈ l, okBar b) → (units 1099511627776 l).length = l.length
  | [], _ => by simp [units]
  | b :: l, h => by
    have h1 := units_whole l (fun x hx => h x (by simp [hx]))
    have hb := h b (by simp)
    obtain ⟨o1, o2⟩ := one_bd hb
    have h2 := hb.2.2.1
    have h3 := hb.2.2.2.1
    have h4 : 1000 ≤ 1099511627776 / oneOf b := (Int.le_ediv_iff_mul_le (by omega)).2 (by omega)
    have e : unitsB 1099511627776 b = [(b, b.count)] := by rw [unitsB, chunks_one (by omega) (by omega)]; rfl
    simp only [units, List.map_cons, List.flatten_cons, List.length_append] at h1 ⊢
    rw [e, h1]
    simp; omega
theorem makeV_len {l : List Bar} {most : Int} (h : makeE l most = 0) : (makeV l most).length = (units most l).length := by rw [makeV, if_pos h, bunL_len]
theorem makeV_bad {l : List Bar} {most : Int} (h : ¬ makeE l most = 0) : makeV l most = [] := if_neg h
theorem more_law {l : List Bar} {most k : Int} (h : makeE l most = 0) (hk : 0 ≤ k) : (1099511627776 < most + k ∧ makeE l (most + k) = 2) ∨ (most + k ≤ 1099511627776 ∧ makeE l (most + k) = 0 ∧ (makeV l (most + k)).length ≤ (makeV l most).length) := by
  obtain ⟨h1, h2, h3, h4⟩ := makeE_ok h
  by_cases hb : 1099511627776 < most + k
  · left
    refine ⟨hb, ?_⟩
    unfold makeE
    rw [if_pos h1, if_neg (by omega)]
  · right
    have hm := units_mono (most' := most + k) (by omega) l h1.2.1 (not_over2 h3)
    have hno : ¬ overP (most + k) l := by
      rintro ⟨b, hb, hx⟩
      have := not_over2 h3 b hb
      have := of_decide_eq_true hx
      omega
    have he : makeE l (most + k) = 0 := by
      unfold makeE
      rw [if_pos h1, if_pos (by omega), if_neg hno, if_pos (by omega)]
    refine ⟨by omega, he, ?_⟩
    rw [makeV_len he, makeV_len h]
    exact hm
theorem whole_law {l : List Bar} (h : makeE l 1099511627776 = 0) : (makeV l 1099511627776).length = l.length := by
  rw [makeV_len h, units_whole l (makeE_ok h).1.2.1]
end Go.Proofs.YthpjfkmhpoeojaaDoor
