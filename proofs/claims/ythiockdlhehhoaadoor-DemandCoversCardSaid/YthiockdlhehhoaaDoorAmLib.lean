/-
  The abstract machine, continued: functions of the library that change a slice in place, by the kit's contracts.
  Conditions: none; generic over the program.
-/
import Derived.Test.YthiockdlhehhoaaDoorAmRes
import Derived.Shelf.SlicesQ.Reverse
namespace Go.AM
open Go.Proofs Go.Lib Go.Sort
set_option linter.unusedVariables false
set_option linter.unusedSimpArgs false
set_option linter.unusedSectionVars false

/-- The cells of one element. -/
abbrev CV (k : Nat) : Type := {l : List Value // l.length = k ∧ ∀ v ∈ l, v.oneCell' = true}
instance (k : Nat) : Inhabited (CV k) := ⟨⟨List.replicate k (.bool false), by simp, fun v hv => by rw [List.eq_of_mem_replicate hv]; rfl⟩⟩
theorem flat_list {α : Type} [Inhabited α] (enc : α → List Value) (k : Nat) (hk : ∀ x, (enc x).length = k) (h0 : 0 < k) : ∀ (n : Nat) (cs : List α), cs.length = n → (flatK enc k cs.toArray).toList = (cs.map enc).flatten
  | 0, cs, h => by
    rw [List.eq_nil_of_length_eq_zero h]
    simp [flatK]
  | n + 1, cs, h => by
    have hne : cs ≠ [] := by intro e; subst e; simp at h
    obtain ⟨pre, c, rfl⟩ : ∃ pre c, cs = pre ++ [c] := ⟨_, _, (List.dropLast_concat_getLast hne).symm⟩
    have hl : pre.length = n := by simpa using h
    have ih := flat_list enc k hk h0 n pre hl
    simp only [flatK, Array.toList_map, Array.toList_range, List.size_toArray] at ih ⊢
    rw [List.length_append, List.length_singleton, Nat.add_mul, Nat.one_mul, List.range_add, List.map_append, List.map_append, List.flatten_append, ← ih]
    congr 1
    · apply List.map_congr_left
      intro t ht
      have ht' : t / k < pre.length := by
        rw [Nat.div_lt_iff_lt_mul h0]
        exact List.mem_range.1 ht
      congr 2
      rw [getElem!_pos _ _ (by simp; omega), getElem!_pos _ _ (by simpa using ht')]
      simp [List.getElem_append_left ht']
    · simp only [List.map_cons, List.map_nil, List.flatten_cons, List.flatten_nil, List.append_nil, List.map_map]
      apply List.ext_getElem
      · simp [hk]
      · intro i h1 h2
        simp only [List.length_map, List.length_range] at h1
        simp only [List.getElem_map, List.getElem_range, Function.comp_apply]
        have e1 : (pre.length * k + i) / k = pre.length := by rw [Nat.mul_comm, Nat.mul_add_div h0, Nat.div_eq_of_lt h1, Nat.add_zero]
        have e2 : (pre.length * k + i) % k = i := by rw [Nat.mul_comm, Nat.mul_add_mod, Nat.mod_eq_of_lt h1]
        rw [e1, e2, getElem!_pos _ pre.length (by simp)]
        simp only [List.getElem_toArray, List.getElem_concat_length]
        rw [getElem!_pos _ i (by rw [hk]; exact h1)]
/-- Rows and their cells, element by element. -/
def ZR (E : Env) (sz : Nat) : List (List AV) → List (CV sz) → Prop
  | [], [] => True
  | r :: rs, c :: cs => (r.length = sz ∧ FVc E r c.1) ∧ ZR E sz rs cs
  | _, _ => False
theorem ZR.length {E : Env} {sz : Nat} : ∀ {rows : List (List AV)} {cs : List (CV sz)}, ZR E sz rows cs → cs.length = rows.length
  | [], [], _ => rfl
  | _ :: rs, _ :: cs, h => by simp [ZR.length h.2]
theorem take_put (F cur : Array Value) (h : F.size ≤ cur.size) : (putCells id 0 F cur).size = cur.size ∧ (putCells id 0 F cur).toList.take F.size = F.toList := by
  have hs : (putCells id 0 F cur).size = cur.size := by simp [putCells]
  refine ⟨hs, ?_⟩
  apply List.ext_getElem
  · simp [hs]; omega
  · intro i h1 h2
    have hi : i < F.size := by simpa using h2
    rw [List.getElem_take, Array.getElem_toList, Array.getElem_toList]
    simp only [putCells, Array.getElem_mapIdx]
    rw [if_pos ⟨Nat.zero_le _, by omega⟩, Nat.sub_zero, getElem!_pos F i hi]
    rfl
theorem rel0 {E : Env} {X : Nat → List Value} {objs : List (Nat × Obj)} {k : Nat} (hE : Entry E X objs k) : Rel (ctxOf E objs k) E X ⟨[(0, .tup [])], objs, k, 1, k⟩ { tmps := #[.tuple #[]], defers := [] } := by
  refine ⟨?_, rfl, rfl, ?_, hE.apart, hE.stay, ?_, Keep.refl _ _, ?_, ?_, ?_, fun b hb => hb, fun b hb => .inl hb, rfl, hE.glob⟩
  · intro s v hv
    rw [find_cons] at hv
    split at hv
    · rename_i e
      subst e
      simp only [Option.some.injEq] at hv
      subst hv
      simp [FV, FVs]
    · simp [find] at hv
  · intro r o hr
    obtain ⟨h1, h2⟩ := hE.objs r o hr
    exact ⟨(hE.dom r).2 h1, h2⟩
  · intro r hr; exact (hE.dom r).1 hr
  · intro r o b hr hb; exact .inl ⟨r, o, hr, hb⟩
  · intro r hr; exact ⟨rfl, rfl⟩
  · intro r hr; exact (hE.dom r).2 hr
end Go.AM
