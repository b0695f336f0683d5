/-
  The abstract machine, continued: rows of elements of one cell.
  Conditions: none; generic over the program.
-/
import Derived.Test.YthiockdlhehhoaaDoorAmSort
namespace Go.AM
open Go.Proofs Go.Lib Go.Sort Go.Shelf Go.WideElems Go.WideShapes
set_option linter.unusedVariables false
set_option linter.unusedSimpArgs false
set_option linter.unusedSectionVars false
section
variable {α : Type} [Inhabited α] {enc : α → Value}
theorem flat1 (enc : α → Value) (d : Array α) : flatK (fun x => [enc x]) 1 d = d.map enc := by
  apply Array.ext
  · simp
  · intro i h1 h2
    have h3 : i < d.size := by simpa using h2
    have h4 := get_flatK (fun x => [enc x]) 1 d i (by simpa using h1)
    rw [getElem!_pos _ i h1] at h4
    rw [h4]
    simp [Nat.mod_one, h3]
theorem putRow1 (enc : α → Value) (w : World) (b off : Nat) (d : Array α) : putRow enc w b off d = putRowK (fun x => [enc x]) 1 w b off d := by
  unfold putRowK putRow
  rw [flat1]
  congr 1
  funext c
  unfold putCells
  apply Array.ext
  · simp
  · intro i h1 h2
    simp only [Array.getElem_mapIdx, Array.size_map, id]
    split
    · rename_i h
      have h5 : i - off < d.size := by omega
      rw [getElem!_pos d (i - off) h5, getElem!_pos (d.map enc) (i - off) (by simpa using h5), Array.getElem_map]
    · rfl
theorem holds1 {w : World} {b off : Nat} {d : Array α} (h : HoldsK (fun x => [enc x]) 1 w b off d) : Holds enc w b off d := by
  unfold HoldsK at h
  rw [flat1] at h
  intro j hj
  have := h j (by simpa using hj)
  rw [getElem!_pos (d.map enc) j (by simpa using hj), Array.getElem_map] at this
  rw [getElem!_pos d j hj]
  exact this
end
end Go.AM
