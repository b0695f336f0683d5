/-
  Part 18 of the proof: the abstract machine, proved sound over the model.
  Conditions: none.
-/
import Derived.Shelf.Strings.Search3
import Derived.Shelf.Strings.Count
import Derived.Test.YtaololdbooblkaaGreatDoorX17
set_option linter.unusedVariables false
set_option linter.unusedSimpArgs false
set_option linter.unusedSectionVars false
namespace Go.AM
section
open Go.Proofs Go.Lib Go.Shelf
theorem PK {P:Program} {f:FuncId} {args:List Value} {y:Value} (hB:EG P f) (h:∀ w,Calls P f args.toArray w fun e w'=>e= .returned y∧w'=w):Fun P f (args.map .lit) (AI (.lit y) []):=by
 refine ⟨hB,fun E xs hx hS hG=>?_⟩
 have hxs:xs=args:=by
  clear h hS hG
  induction args generalizing xs with
  |nil=>simpa [FVs] using hx
  |cons a args ih =>
   simp only [List.map_cons,FVs,FV] at hx;obtain ⟨y1,ys,rfl,rfl,h2⟩:=hx;rw [ih ys h2]
 subst hxs;refine (h E.w).mono ?_;rintro e w' ⟨rfl,rfl⟩;refine ⟨_,_,_,E.clear,fun _=>[],rfl,rfl,⟨rfl,rfl⟩,?_⟩;refine ⟨⟨rfl,Tp.refl _,rfl,Nat.le_refl _,fun b hb _=>rfl⟩,⟨fun b hb=>⟨hb,rfl⟩,fun r hr=>hr.elim⟩,fun r hr=> .inl hr,fun b hb=> .inl hb,?_,?_,by simp [FV,FVs]⟩
 ·intro r o hr;simp [Al] at hr
 intro r r' o o' b hr;simp [Al] at hr
theorem OA {P:Program} {ρ:Ren} (L:Lays.n219 P ρ) (hB:EG P (ρ.f 219)) (s:List UInt8) (c:UInt8):Fun P (ρ.f 219) [.lit (C9 s), .lit (C9 [c])] (AI (.lit (.int .i64 (Go.Lib.indexByte s c))) []) :=
 PK (args:=[C9 s,C9 [c]]) hB fun w=>Any.stringslite_Index_one L ⟨s.toArray⟩ c w
theorem J0 (l:List UInt8) (a b:Nat):(⟨l.toArray⟩:ByteArray).extract a b=⟨((l.take b).drop a).toArray⟩:=by
 apply ByteArray.ext
 simp [ByteArray.data_extract,List.extract_eq_take_drop,List.drop_take]
section rules
variable {P:Program} {s:List (Nat × AV)} {b:List (Nat × Obj)} {n t e id:Nat} {x y z:Operand} {k k':IntKind} {i j:Int} {l:List UInt8}
theorem Pa {st:Nat} (he:A9 P st=none) (hu:P.underlying st=some .string) (hx:AJ s x=some (.lit (C9 l)):=by exact rfl) (hy:AJ s y=some (.lit (.int k i)):=by exact rfl) (h0:0≤i:=by first | omega | assumption) (h1:i≤l.length:=by first | omega | assumption) :
 At P ⟨s,b,n,t,e⟩ id (.slice st x none (some y) none)=some (.lit (C9 (l.take i.toNat)),[]):=by
 have ha:Br P (asIntOf (.int k i))=some (k,i):=rfl
 have:Kg P st (C9 l) none (some (.int k i))=some (C9 (l.take i.toNat)):=by
  simp only [Kg,Instr.sliceAt,Instr.slice,C9,Bb,BJ hu,Option.bind_some,Instr.sliceBounds,Instr.sliceBound,ha,E9,h0,h1,and_self,if_true,Bj,Option.isSome_none,Bool.false_eq_true,if_false,J0,List.drop_zero]
 simp only [At,he,AB hx,AB hy,toVal,Eu,Option.map_some,this,C0]
theorem GR {st:Nat} (he:A9 P st=none) (hu:P.underlying st=some .string) (hx:AJ s x=some (.lit (C9 l)):=by exact rfl) (hy:AJ s y=some (.lit (.int k i)):=by exact rfl) (h0:0≤i:=by first | omega | assumption) (h1:i≤l.length:=by first | omega | assumption) :
 At P ⟨s,b,n,t,e⟩ id (.slice st x (some y) none none)=some (.lit (C9 (l.drop i.toNat)),[]):=by
 have ha:Br P (asIntOf (.int k i))=some (k,i):=rfl
 have:Kg P st (C9 l) (some (.int k i)) none=some (C9 (l.drop i.toNat)):=by
  simp only [Kg,Instr.sliceAt,Instr.slice,C9,Bb,BJ hu,Option.bind_some,Instr.sliceBounds,Instr.sliceBound,ha,E9,h0,h1,and_self,if_true,Bj,Option.isSome_none,Bool.false_eq_true,if_false,J0,List.take_length]
 simp only [At,he,AB hx,AB hy,toVal,Eu,Option.map_some,this,C0]
end rules
end
end Go.AM
