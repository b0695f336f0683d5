/-
  Part 22 of the proof: the abstract machine, proved sound over the model.
  Conditions: none.
-/
import Derived.Shelf.Strconv.Itoa3
import Derived.Lib.LaidTab
import Derived.Stop.LaidErr
import Derived.LaidSub
import Derived.MakeChecks
import Derived.Test.YtaololdbooblkaaGreatDoorX21
set_option linter.unusedVariables false
set_option linter.unusedSimpArgs false
namespace Go.AM
section
open Go.Proofs Go.Lib Go.Sort
theorem Um {P:Program} {laid:List (String × DataW Unit)} {W:World} {name:String} {k:IntKind} {zs:List Int} {g:Nat} {t e:TypeId} {n:Nat} (h:laidMetH P laid W)
 (hf:laid.filter (fun x=>x.1 == name)=[(name,Lib.tabData k zs)]) (hg:P.globalNamed name=some g) (hty:(P.globals[g]?).map (·.type)=some t) (ht:P.underlying t=some (.array n e)) (he:P.underlying e=some (.int k)) (hce:P.cellsOf e=1) (hct:P.cellsOf t=n) :
 ∃ tt fz,W.heap[g]?= some (.cells (zs.map fun z=>Value.int k z).toArray tt fz):=by
 have h1:=h.filter (fun x=>x.1 == name);rw [hf,MakeChecks.laidMetH_plain _ _ _ rfl] at h1;have h2:=Lib.tabIs_of_head hg hty ht he hce hct h1;simp only [Lib.TabIs,World.var?,hg,Option.bind_some] at h2
 split at h2
 ·rename_i cs tt fz e
  obtain rfl:=Option.some.inj h2;exact ⟨tt,fz,e⟩
 cases h2
theorem PR {W:World} {g:Nat} {k:IntKind} {zs:List Int} (hl:laidG=[(g,zs.map fun z=>Value.int k z)]) (h:∃ tt fz,W.heap[g]?= some (.cells (zs.map fun z=>Value.int k z).toArray tt fz)) (h':∀ g ∈ laidE,∃ tt fz te pe,W.heap[g]?= some (.cells #[.iface te pe] tt fz)):LaidOK W (fun b=>b < W.heap.size):=by
 refine ⟨fun p hp=>?_,fun g hg=>?_⟩
 ·rw [hl] at hp;obtain rfl:=List.mem_singleton.1 hp;obtain ⟨tt,fz,e⟩:=h;refine ⟨(Array.getElem?_eq_some_iff.1 e).1,⟨tt,fz,e⟩,fun v hv=>?_⟩;obtain ⟨z,_,rfl⟩:=List.mem_map.1 hv;rfl
 obtain ⟨tt,fz,te,pe,e⟩:=h' g hg;exact ⟨(Array.getElem?_eq_some_iff.1 e).1,tt,fz,te,pe,e⟩
theorem Ri {W:World} {g:Nat} {k:IntKind} {zs:List Int} (hl:laidG=[(g,zs.map fun z=>Value.int k z)]) (h:∃ tt fz,W.heap[g]?= some (.cells (zs.map fun z=>Value.int k z).toArray tt fz)) (h':laidE=[]:=by rfl):LaidOK W (fun b=>b < W.heap.size) :=
 PR hl h fun g hg=>by rw [h'] at hg;cases hg
theorem Qc {P:Program} {w:World} {S:Nat→Prop} (h:LaidOK w S) {name:String} {k:IntKind} {zs:List Int} {g:Nat} (hg:P.globalNamed name=some g) (hm:(g,zs.map fun z=>Value.int k z) ∈ laidG):Lib.TabIs P w name k zs:=by
 obtain ⟨tt,fz,e⟩:=(h.1 _ hm).2.1;simp only [Lib.TabIs,World.var?,hg,Option.bind_some,e]
theorem Uk {P:Program} {ρ:Go.Shelf.Ren} (L:LaysM.n171 P ρ) (hB:EG P (ρ.f 171)) {g:Nat} (hg:P.globalNamed "internal/strconv.uint64pow10"=some g) (hm:(g,Lib.pow10Tab.map fun z=>Value.int .u64 z) ∈ laidG)
 {n:Int} (h0: -9223372036854775808≤n) (h1:n≤9223372036854775807):Fun P (ρ.f 171) [.lit (.int .i64 n)] (AI (.lit (.string ⟨(Lib.itoa n).toArray⟩)) []):=by
 refine ⟨hB,fun E xs hx hS hG=>?_⟩;simp only [FVs,FV] at hx;obtain ⟨y,ys,rfl,rfl,rfl⟩:=hx;refine (Any.strconv_Itoa L n h0 h1 E.w (Qc hG hg hm)).mono ?_;rintro e w' ⟨rfl,k,os,rfl⟩;refine ⟨_,_,_,{ E.clear with w:=grow (E.w.drewN k) os },fun _=>[],rfl,rfl,⟨rfl,rfl⟩,?_⟩
 have hblk:∀ b,b < E.w.heap.size→(grow (E.w.drewN k) os).heap[b]?= E.w.heap[b]?:=fun b hb=>by
  simp only [grow,World.heap_drewN];rw [Array.getElem?_append_left hb]
 refine ⟨⟨by simp [grow,World.drewN,Env.clear],⟨by simp [grow,World.drewN,Env.clear],by simp [grow,World.drewN,Env.clear]⟩,by simp [grow,World.drewN,Env.clear],by simp [grow,World.drewN,Env.clear],fun b hb _=>hblk b hb⟩,⟨fun b hb=>⟨hb,hblk b (hS b hb)⟩,fun r hr=>hr.elim⟩,fun r hr=> .inl hr,fun b hb=> .inl hb,?_,?_,by simp [FV]⟩
 ·intro r o hr;simp [Al] at hr
 intro r r' o o' b hr;simp [Al] at hr
end
end Go.AM
