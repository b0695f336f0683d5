/-
  The abstract machine, continued: an element of an array's value.
  Conditions: none; generic over the program.
-/
import Derived.Test.YtigjoaejncfmdaaAmStr
import Derived.Test.YtigjoaejncfmdaaAmDraw
import Derived.Test.YtigjoaejncfmdaaAmEq
import Derived.Test.YtigjoaejncfmdaaAmRes
namespace Go.AM
set_option linter.unusedVariables false
set_option linter.unusedSimpArgs false
set_option linter.unusedSectionVars false
section rules
variable {P : Program} {s : List (Nat × AV)} {b : List (Nat × Obj)} {n t e id : Nat} {x y : Operand} {k : IntKind} {i : Int}
/-- A result that leads to memory of the call's own. -/
theorem Ev.retg {b : List (Nat × Obj)} {rs : List ResultVar} {Post : AV → List (Nat × Obj) → Prop} {vs : List AV} {v : AV} {objs : List (Nat × Obj)} (ks : List Nat) (hr : resAV P ⟨s, b, n, t, e⟩ rs = some vs) (h : Post v objs) (hv : renAV (pos ks 0) (packAV vs) = some v := by exact rfl) (ho : keepObjs ⟨s, b, n, t, e⟩ (pos ks 0) 0 ks = some objs := by exact rfl) (hnd : ks.Nodup := by decide) :
    endP P rs Post .ret ⟨s, b, n, t, e⟩ := ⟨ks, hnd, by simp only [retP, hr, hv, ho]; exact h⟩
end rules
end Go.AM
namespace Go.AM
set_option linter.unusedVariables false
set_option linter.unusedSimpArgs false
section rules
variable {P : Program} {s : List (Nat × AV)} {b : List (Nat × Obj)} {n t e id ty d : Nat} {x y : Operand}
end rules
end Go.AM
