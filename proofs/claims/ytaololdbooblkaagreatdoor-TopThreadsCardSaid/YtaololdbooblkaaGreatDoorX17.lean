/-
  Part 17 of the proof: functions walked on the abstract machine.
  Conditions: none.
-/
import Derived.Test.YtaololdbooblkaaGreatDoorRows
import Derived.Test.YtaololdbooblkaaGreatDoorX16
set_option linter.unusedVariables false
set_option linter.unusedSimpArgs false
set_option linter.unusedSectionVars false
namespace Go.Proofs.YtaololdbooblkaaGreatDoor
open Go Go.AM
theorem am_ft56:Eb Tryz.prog 56=some [3,3,3]:=by kernel_rfl
theorem am_ft168:Eb Tryz.prog 168=some [9,3,3,3,24]:=by kernel_rfl
theorem am_ft192:Eb Tryz.prog 192=some [3,3]:=by kernel_rfl
theorem am_ft194:Eb Tryz.prog 194=some [9,192,56,56,3]:=by kernel_rfl
theorem am_own:ownKnob Tryz.prog.godebug=none:=by kernel_rfl
theorem am_laid:laidOutB Tryz.prog=true:=by kernel_rfl
end Go.Proofs.YtaololdbooblkaaGreatDoor
namespace Go.AM
theorem VH (P:Program) (t:TypeId) (x y:Operand) (k yk:IntKind) (a c:Int) (hc:0≤c):De P .shr t x y (.int k a) (.int yk c)=some (.int k (a.fdiv (2 ^ min c.toNat k.bits))):=by
 have:(Op.shift .shr k a yk c)=pure (.int k (a.fdiv (2 ^ min c.toNat k.bits))):=by
  simp only [Op.shift];rw [if_neg (by omega)]
 simp [De,Bb,eqGuard_at_int,binOp,this,Bj]
section rules
variable {P:Program} {s:List (Nat × AV)} {b:List (Nat × Obj)} {n t e id:Nat} {d ty:Nat} {x y:Operand} {k k':IntKind} {i j:Int}
def Xw (k:IntKind) (i c:Int):Int:=i.fdiv (2 ^ min c.toNat k.bits)
theorem Xt {yk:IntKind} {c:Int} (hx:AJ s x=some (.lit (.int k i)):=by exact rfl) (hy:AJ s y=some (.lit (.int yk c)):=by exact rfl) (h1:0≤c:=by first | omega | assumption):At P ⟨s,b,n,t,e⟩ id (.binOp .shr ty x y d)=some (.lit (.int k (Xw k i c)),[]):=by
 simp only [At,AB hx,AB hy,toVal,VH _ _ _ _ _ _ _ _ h1,Xw,C0,Option.map_some]
theorem Tg {sd dd:TypeId} (hd:P.underlying dd=some (.int .u8)) (hs:(P.underlying sd).isSome=true) (hx:AJ s x=some (.lit (.int k i)):=by exact rfl):At P ⟨s,b,n,t,e⟩ id (.convert sd dd x)=some (.lit (.int .u8 (i % 256)),[]) :=
 Pc hd hs hx (by simp [IntKind.wrap,IntKind.bits,IntKind.signed])
end rules
end Go.AM
