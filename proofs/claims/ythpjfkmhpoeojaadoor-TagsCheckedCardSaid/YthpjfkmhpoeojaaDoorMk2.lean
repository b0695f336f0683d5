/-
  The answer: making bundles, equality.
  Conditions: none.
-/
import Derived.Test.YthpjfkmhpoeojaaDoorMk1
import Derived.Test.YthpjfkmhpoeojaaDoorDig
import Derived.Test.YthpjfkmhpoeojaaDoorRbend
namespace Go.Proofs.YthpjfkmhpoeojaaDoor
open Go Go.AM
set_option linter.unusedSimpArgs false
set_option linter.unusedVariables false
set_option maxRecDepth 100000
set_option maxHeartbeats 1000000

theorem fill_app (most : Int) (pre : List Bar) (q : List Unit2) : units most pre ++ q ++ [] = units most pre ++ q := List.append_nil _

theorem bun_same {s t : Bundle} (h : (!(decide ((⟨s.tag.toArray⟩ : ByteArray) = ⟨t.tag.toArray⟩) && (decide ((⟨s.mark.toArray⟩ : ByteArray) = ⟨t.mark.toArray⟩) && (decide (s.count = t.count) && (decide (s.mass = t.mass) && true))))) = false) : t = s := by
  simp only [Bool.not_eq_false', Bool.and_eq_true, decide_eq_true_eq, Bool.and_true] at h
  obtain ⟨h1, h2, h3, h4⟩ := h
  cases s; cases t
  simp only [Bundle.mk.injEq]
  exact ⟨(bytes_inj.1 h1).symm, (bytes_inj.1 h2).symm, h3.symm, h4.symm⟩
theorem bun_diff {s t : Bundle} (h : (!(decide ((⟨s.tag.toArray⟩ : ByteArray) = ⟨t.tag.toArray⟩) && (decide ((⟨s.mark.toArray⟩ : ByteArray) = ⟨t.mark.toArray⟩) && (decide (s.count = t.count) && (decide (s.mass = t.mass) && true))))) = true) : s ≠ t := by
  rintro rfl
  simp at h
end Go.Proofs.YthpjfkmhpoeojaaDoor
