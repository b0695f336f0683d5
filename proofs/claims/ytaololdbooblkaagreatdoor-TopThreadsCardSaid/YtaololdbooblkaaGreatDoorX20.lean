/-
  Part 20 of the proof: the abstract machine, proved sound over the model.
  Conditions: none.
-/
import Derived.Shelf.Strings.SlTrimAscii
import Derived.Shelf.Strconv.Atoi
import Derived.Lib.AtoiErrMem
import Derived.Test.YtaololdbooblkaaGreatDoorX19
set_option linter.unusedVariables false
set_option linter.unusedSimpArgs false
set_option linter.unusedSectionVars false
namespace Go.AM
section
open Go.Proofs Go.Lib Go.Sort Go.Shelf
theorem Ra {P:Program} {f:FuncId} {args:List Value} {y:Value} {v:AV} (hB:EG P f) (hv:∀ E,FV E v y) (h:∀ w,Calls P f args.toArray w fun e w'=>e= .returned y∧Go.RowKit.Below w.heap.size w w'∧w.drawn≤w'.drawn):Fun P f (args.map .lit) (AI v []):=by
 refine ⟨hB,fun E xs hx hS hG=>?_⟩
 have hxs:xs=args:=by
  clear h hS hG
  induction args generalizing xs with
  |nil=>simpa [FVs] using hx
  |cons a args ih =>
   simp only [List.map_cons,FVs,FV] at hx;obtain ⟨y1,ys,rfl,rfl,h2⟩:=hx;rw [ih ys h2]
 subst hxs;refine (h E.w).mono ?_;rintro e w' ⟨rfl,hb,hd⟩;refine ⟨_,_,_,{ E.clear with w:=w' },fun _=>[],rfl,rfl,⟨rfl,rfl⟩,?_⟩;refine ⟨⟨hb.os,⟨hb.tape,hd⟩,hb.output,hb.size,fun b hbb _=>hb.block b hbb⟩,⟨fun b hbb=>⟨hbb,hb.block b (hS b hbb)⟩,fun r hr=>hr.elim⟩,fun r hr=> .inl hr,fun b hb=> .inl hb,?_,?_,hv _⟩
 ·intro r o hr;simp [Al] at hr
 intro r r' o o' b hr;simp [Al] at hr
theorem WO {P:Program} {ρ:Ren} (L:Lays.n172 P ρ) (hB:EG P (ρ.f 172)) (s:List UInt8) (n:Int) (hl:s.length≤18) (h:Lib.atoi s=some n):Fun P (ρ.f 172) [.lit (C9 s)] (AI (.tup [.lit (.int .i64 n), .lit .nilIface]) []):=by
 refine Ra (args:=[C9 s]) (y:= .tuple #[.int .i64 n, .nilIface]) hB (fun E=>by simp [FV,FVs]) fun w=>?_;refine (Any.strconv_Atoi L ⟨s.toArray⟩ n hl h w).mono ?_;rintro e w' ⟨rfl,t,rfl⟩;exact ⟨rfl,bytesWorld_below w _ t,Nat.le_succ _⟩
section
variable {P:Program} {s:List (Nat × AV)} {b:List (Nat × Obj)} {n t e:Nat}
end
end
end Go.AM
