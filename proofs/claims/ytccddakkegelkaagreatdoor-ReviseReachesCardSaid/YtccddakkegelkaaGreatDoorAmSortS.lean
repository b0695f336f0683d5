/-
  The abstract machine, continued: slices.Sort at strings by the kit's contract.
  Conditions: none; generic over the program.
-/
import Derived.Test.YtccddakkegelkaaGreatDoorAmSort
import Derived.Test.YtccddakkegelkaaGreatDoorAmRow1
import Derived.Shelf.Sort.Plain
import Derived.Shelf.Slices.In.SortNone
namespace Go.AM
open Go.Proofs Go.Lib Go.Sort Go.Shelf
set_option linter.unusedVariables false
set_option linter.unusedSimpArgs false
set_option linter.unusedSectionVars false
theorem encS_L : EncL (fun x : List UInt8 => [.lit (str x)]) (fun x => [encStr x]) 1 := ⟨fun _ => rfl, fun _ => rfl, fun x v hv => by rw [List.mem_singleton] at hv; subst hv; rfl⟩
/-- slices.Sort at strings. -/
theorem sortS_R {P : Program} {ρ : Ren} (L : Lays.n190 P ρ) (hB : Bodied P (ρ.f 190)) {el : Nat} (l : List (List UInt8)) (hn : l.length ≤ 1000000) :
    FunR P (ρ.f 190) [.als 0 0 l.length] [(0, ⟨true, el, 1, l.map fun x => [.lit (str x)], true⟩)] 1 (fun v objs => ∃ l' : List (List UInt8), l' = l.mergeSort (fun x y => decide (x ≤ y)) ∧ v = .tup [] ∧ objs = [(0, ⟨true, el, 1, l'.map fun x => [.lit (str x)], true⟩)]) := by
  refine inplace_X (more := []) (Φ := fun l' : List (List UInt8) => l' = l.mergeSort (fun x y => decide (x ≤ y))) hB encS_L (by decide) (fun l' h => by rw [h]; exact List.length_mergeSort _) rfl (fun e => by rw [e]; simp) ?_ ?_
  · intro hl E ms hms
    simp only [FVs] at hms
    subst hms
    exact Any.slices_Sort_string_none L none 0 E.w
  · intro E b cap ms hms hH hblt hG hS
    simp only [FVs] at hms
    subst hms
    refine (Any.slices_Sort_string L b 0 cap l E.w (holds1 hH) hblt (by omega)).mono ?_
    rintro e w' ⟨rfl, n, os, rfl⟩
    refine ⟨rfl, _, n, os, rfl, ?_⟩
    rw [putRow1]
end Go.AM
