/-
  Lists of lists.
  Conditions: none.
-/
import Derived.Test.YtccddakkegelkaaBase
namespace Go.Proofs.Ytccddakkegelkaa
open Go Go.AM
set_option linter.unusedSimpArgs false
set_option linter.unusedVariables false
set_option maxRecDepth 100000

theorem opt_len {T : Type} (o : Option T) : o.toList.length ≤ 1 := by cases o <;> simp
theorem flat_len {T U : Type} (f : T → List U) (h : ∀ x, (f x).length ≤ 1) : ∀ l : List T, (l.flatMap f).length ≤ l.length
  | [] => by simp
  | x :: l => by
    have := h x
    have := flat_len f h l
    simp only [List.flatMap_cons, List.length_append, List.length_cons]
    omega
theorem flat_snoc {T U : Type} (f : T → List U) (l : List T) (s : T) : (l ++ [s]).flatMap f = l.flatMap f ++ f s := by simp
end Go.Proofs.Ytccddakkegelkaa
