/-
  Part 17 of the proof: the abstract machine, proved sound over the model.
  Conditions: none.
-/
import Derived.Shelf.Sort.Plain
import Derived.Shelf.Slices.In.SortNone
import Derived.Shelf.Slices.Reverse
import Derived.Test.YtlpgjlnkfgacbaaGreatX16
set_option linter.unusedVariables false
set_option linter.unusedSimpArgs false
set_option linter.unusedSectionVars false
namespace Go.AM
open Go.Proofs Go.Lib Go.Sort Go.Shelf
theorem encI_L : EncL (fun x : Int => [.lit (.int .i64 x)]) (fun x => [Value.int .i64 x]) 1 := ⟨fun _ => rfl, fun _ => rfl, fun x v hv => by rw [List.mem_singleton] at hv; subst hv; rfl⟩
theorem sortI_R {P : Program} {ρ : Ren} (L : Lays.n189 P ρ) (hB : Bodied P (ρ.f 189)) {el : Nat} (l : List Int) (hn : l.length ≤ 1000000) :
    FunR P (ρ.f 189) [.als 0 0 l.length] [(0, ⟨true, el, 1, l.map fun x => [.lit (.int .i64 x)], true⟩)] 1 (fun v objs => ∃ l' : List Int, l' = l.mergeSort (fun x y => decide (x ≤ y)) ∧ v = .tup [] ∧ objs = [(0, ⟨true, el, 1, l'.map fun x => [.lit (.int .i64 x)], true⟩)]) := by
  refine inplace_X (more := []) (Φ := fun l' : List Int => l' = l.mergeSort (fun x y => decide (x ≤ y))) hB encI_L (by decide) (fun l' h => by rw [h]; exact List.length_mergeSort _) rfl (fun e => by rw [e]; simp) ?_ ?_
  · intro hl E ms hms; simp only [FVs] at hms; subst hms; exact Any.slices_Sort_int_none L none 0 E.w
  · intro E b cap ms hms hH hblt hG hS; simp only [FVs] at hms; subst hms; refine (Any.slices_Sort_int L b 0 cap l E.w (holds1 hH) hblt (by omega)).mono ?_; rintro e w' ⟨rfl, n, os, rfl⟩; refine ⟨rfl, _, n, os, rfl, ?_⟩; rw [putRow1]
end Go.AM
namespace Go.AM
section rules
variable {P : Program} {s : List (Nat × AV)} {b : List (Nat × Obj)} {n t e : Nat} {ops : Array Oper} {rest : List Oper} {Q : St → Prop} {d ty : Nat} {pos' : String} {aft : Array Edge} {g : Option (Nat × Bool)} {x : Operand} {Post : AV → List (Nat × Obj) → Prop}
end rules
end Go.AM
