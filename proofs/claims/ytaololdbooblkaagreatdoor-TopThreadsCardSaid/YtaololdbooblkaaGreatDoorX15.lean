/-
  Part 15 of the proof: the abstract machine, proved sound over the model.
  Conditions: none.
-/
import Derived.Shelf.Bits.Mul64
import Derived.Test.YtaololdbooblkaaGreatDoorX14
set_option linter.unusedVariables false
set_option linter.unusedSimpArgs false
namespace Go.AM
section
open Go.Proofs
theorem VY {P:Program} {ρ:Go.Shelf.Ren} (L:Lays.n212 P ρ) (hB:EG P (ρ.f 212)) (x y:Nat) (hx:x < 18446744073709551616) (hy:y < 18446744073709551616) :
 Fun P (ρ.f 212) [.lit (.int .u64 x), .lit (.int .u64 y)] (AI (.tup [.lit (.int .u64 ((x * y / 18446744073709551616:Nat):Int)), .lit (.int .u64 ((x * y % 18446744073709551616:Nat):Int))]) []):=by
 refine ⟨hB,fun E xs hx' hS hG=>?_⟩;simp only [FVs,FV] at hx';obtain ⟨y1,ys,rfl,rfl,y2,ys2,rfl,rfl,rfl⟩:=hx';refine (Any.bits_Mul L x y hx hy E.w).mono ?_;rintro e w' ⟨rfl,rfl⟩;refine ⟨_,_,_,E.clear,fun _=>[],rfl,rfl,⟨rfl,rfl⟩,?_⟩;refine ⟨⟨rfl,Tp.refl _,rfl,Nat.le_refl _,fun b hb _=>rfl⟩,⟨fun b hb=>⟨hb,rfl⟩,fun r hr=>hr.elim⟩,fun r hr=> .inl hr,fun b hb=> .inl hb,?_,?_,by simp [FV,FVs]⟩
 ·intro r o hr;simp [Al] at hr
 intro r r' o o' b hr;simp [Al] at hr
end
end Go.AM
