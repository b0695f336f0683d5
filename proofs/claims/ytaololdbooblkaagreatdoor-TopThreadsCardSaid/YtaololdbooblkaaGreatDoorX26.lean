/-
  Part 26 of the proof: functions walked on the abstract machine.
  Conditions: none.
-/
import GoSem.ClaimSeven
import Derived.Test.YtaololdbooblkaaGreatDoorCards
import Derived.Test.YtaololdbooblkaaGreatDoorX25

namespace Go.Proofs.YtaololdbooblkaaGreatDoor
open Go
theorem MY {P:Program} (h:P.funcs.any Func.goes=false) (f:FuncId):P.goes f=false:=by
 have h1:∀ g:FuncId,(P.funcs[g]?).any Func.goes=false:=by
  intro g
  cases hg:P.funcs[g]? with
  |none=>rfl
  |some fn =>
   obtain ⟨hl,he⟩:=Array.getElem?_eq_some_iff.1 hg;rw [Array.any_eq_false] at h;have:=h g hl;rw [he] at this
   simpa using this
 unfold Program.goes
 rw [h,Bool.and_false,Bool.or_false,List.any_eq_false];intro g _;rw [h1 g];simp
theorem PM {P:Program} (h:P.funcs.any Func.goes=false) (c:OpenClaim):false=c.goesBy P:=by
 unfold OpenClaim.goesBy Program.goesAt Program.goesFrom
 have h1:∀ o:Option FuncId,o.any P.goes=false:=fun o=>by cases o with
  |none=>rfl
  |some f=>exact MY h f
 rw [h1,Bool.false_or]
 split
 ·rfl
 ·symm;rw [List.any_eq_false];intro g _;rw [MY h g];simp
theorem goes_all:Tryz.pinned.checked.prog.funcs.any Go.Func.goes=false:=by kernel_rfl
end Go.Proofs.YtaololdbooblkaaGreatDoor
