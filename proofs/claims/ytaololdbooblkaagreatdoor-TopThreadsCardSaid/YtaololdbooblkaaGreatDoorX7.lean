/-
  Part 7 of the proof: the abstract machine, proved sound over the model.
  Conditions: none.
-/
import Derived.Shelf.SlicesQ.Reverse
import Derived.Test.YtaololdbooblkaaGreatDoorX6
set_option linter.unusedVariables false
set_option linter.unusedSimpArgs false
set_option linter.unusedSectionVars false
namespace Go.AM
section
open Go.Proofs Go.Lib Go.Sort
abbrev CV (k:Nat):Type:={l:List Value // l.length=k∧∀ v ∈ l,v.oneCell'=true}
def ZR (E:Env) (sz:Nat):List (List AV)→List (CV sz)→Prop
 |[],[]=>True
 |r :: rs,c :: cs=>(r.length=sz∧FVc E r c.1)∧ZR E sz rs cs
 |_,_=>False
theorem ZR.length {E:Env} {sz:Nat}:∀ {rows:List (List AV)} {cs:List (CV sz)},ZR E sz rows cs→cs.length=rows.length
 |[],[],_=>rfl
 |_ :: rs,_ :: cs,h=>by simp [ZR.length h.2]
end
section
open Go.MapKept
section plain
variable {K V:Type} [DecidableEq K]
def mget:List (K × V)→K→Option V
 |[],_=>none
 |p :: m,k=>if k=p.1 then some p.2 else mget m k
def mput:List (K × V)→K→V→List (K × V)
 |[],k,v=>[(k,v)]
 |p :: m,k,v=>if k=p.1 then (k,v) :: m else p :: mput m k v
def mpos:List (K × V)→K→Nat
 |[],_=>0
 |p :: m,k=>if k=p.1 then 0 else mpos m k+1
theorem Nh (m:List (K × V)) (k:K) (v:V) (k':K):mget (mput m k v) k'=if k'=k then some v else mget m k':=by
 induction m with
 |nil=>simp [mput,mget]
 |cons p m ih =>
  simp only [mput]
  by_cases h:k=p.1
  ·simp only [h,if_true,mget]
   by_cases h2:k'=p.1 <;> simp [h2]
  simp only [h,if_false,mget,ih]
  by_cases h2:k'=p.1
  ·have:¬ k'=k:=fun e=>h (e ▸ h2);simp only [h2,if_true];rw [if_neg];intro e;exact h e.symm
  simp [h2]
theorem Ux {m:List (K × V)} {k:K} {v:V} (h:mget m k=some v):m[mpos m k]?= some (k,v):=by
 induction m with
 |nil=>simp [mget] at h
 |cons p m ih =>
  simp only [mget] at h;simp only [mpos]
  by_cases h2:k=p.1
  ·simp only [h2,if_true,Option.some.injEq] at h ⊢;subst h
   simp
  simp only [h2,if_false] at h ⊢
  simpa using ih h
theorem SS {m:List (K × V)} {k:K} {v:V} (u:V) (h:mget m k=some v):mput m k u=m.set (mpos m k) (k,u):=by
 induction m with
 |nil=>simp [mget] at h
 |cons p m ih =>
  simp only [mget] at h;simp only [mpos,mput]
  by_cases h2:k=p.1
  ·simp [h2]
  simp only [h2,if_false] at h ⊢
  simp [ih h]
theorem SR {m:List (K × V)} {k:K} (u:V) (h:mget m k=none):mput m k u=m ++ [(k,u)]:=by
 induction m with
 |nil=>rfl
 |cons p m ih =>
  simp only [mget] at h;simp only [mput]
  by_cases h2:k=p.1
  ·simp [h2] at h
  simp only [h2,if_false] at h ⊢;rw [ih h];rfl
end plain
structure KL {K:Type} [DecidableEq K] (d:TypeDesc) (kv:K→Value):Prop where
 same:∀ a b,Instr.sameNow d (kv a) (kv b)=some (decide (a=b))
 key:∀ a,keyB d (kv a)=true
theorem klS:KL .string C9:=⟨fun a b=>by
 simp only [Instr.sameNow]
 congr 1
 by_cases h:a=b
 ·subst h;simp only [decide_true]
  show ((_:ByteArray) == _)=true
  simp [bytes_beq]
 ·simp only [h,decide_false];rw [Bool.eq_false_iff];intro hb
  exact h (Ss.1 ((bytes_beq _ _).1 hb)),fun a=>rfl⟩
def G5 {K V:Type} (kv:K→Value) (vv:V→Value) (p:K × V):List AV:=[.lit (kv p.1), .top, .lit (vv p.2)]
section Al
variable {K V:Type} [DecidableEq K] {d:TypeDesc} {kv:K→Value} {vv:V→Value}
theorem KX (h:KL d kv) (k:K):∀ (m:List (K × V)) (i:Nat),Fh d (kv k) (m.map (G5 kv vv)) i=some ((mget m k).map fun v=>(i+mpos m k,[.top, .lit (vv v)]))
 |[],i=>rfl
 |p :: m,i=>by
  simp only [List.map_cons,G5,Fh,h.same,mget,mpos]
  by_cases h2:k=p.1
  ·simp [h2]
  ·simp only [h2,decide_false,if_false];rw [KX h k m (i+1)]
   congr 1
   cases mget m k with
   |none=>rfl
   |some v=>simp;omega
end Al
section rules
variable {P:Program} {ops:Array Oper} {rest:List Oper} {s:List (Nat × AV)} {b:List (Nat × Obj)} {n t e id:Nat} {Q:St→Prop} {dd ty:Nat} {pos:String} {aft:Array Edge} {g:Option (Nat × Bool)} {x y z:Operand}
variable {K V:Type} [DecidableEq K] {d:TypeDesc} {kv:K→Value} {vv:V→Value} {m:List (K × V)} {k:K} {mt r el:Nat} {z0:V} {cl:Bool}
theorem YS {p:TypeDesc × Option Value} (ht:ES P mt=some p):At P ⟨s,b,n,t,e⟩ id (.makeMap mt none)=some (.hd id,[(id,⟨true,mt,msz p.2,[],true⟩)]):=by
 simp only [At,ht,Option.map_some]
theorem SeqL.of_run {o:Oper} {σ:St} (hg:AL (AU ops) σ o.guard=some true)
 (h:∀ C E X a,Rel C E X σ a→∃ y E' X' σ',(execOp a.eval o).run P E.w= .ok (.value y) E'.w∧Rel C E' X' σ' (a.put o.dst y)∧SeqL P ops rest σ' Q):SeqL P ops (o :: rest) σ Q:=by
 intro C E X a hr Q' hq;simp only [CW,hr.guard hg,if_true];obtain ⟨y,E',X',σ',h1,h2,h3⟩:=h C E X a hr;exact Ie h1 (h3 C E' X' _ h2 Q' hq)
theorem SeqL.of_skip {o:Oper} {σ:St} (hg:AL (AU ops) σ o.guard=some true)
 (h:∀ C E X a,Rel C E X σ a→∃ E' X' σ',(execOp a.eval o).run P E.w= .ok .skip E'.w∧Rel C E' X' σ' (a.put o.dst undef)∧SeqL P ops rest σ' Q):SeqL P ops (o :: rest) σ Q:=by
 intro C E X a hr Q' hq;simp only [CW,hr.guard hg,if_true];obtain ⟨E',X',σ',h1,h2,h3⟩:=h C E X a hr
 unfold Oper.wp
 rw [h1];simp only [Oper.upon];exact h3 C E' X' _ h2 Q' hq
theorem Od {E:Env} {sz:Nat} {new:List AV} {e1:MapEntry} (hn:new.length=sz) (hnew:FVc E new (D7 e1)):∀ {rows:List (List AV)} {es:List MapEntry} {i:Nat},(∀ x ∈ es,(D7 x).length=sz)→FVr E sz rows (C1 es)→i < rows.length→i < es.length→FVr E sz (rows.set i new) (C1 (es.set i e1))
 |[],_,i,_,_,hi,_=>by simp at hi
 |_ :: _,[],i,_,_,_,hi=>by simp at hi
 |row :: rows,x :: es,i,hl,hf,hi,hi'=>by
  obtain ⟨h1,h2,h3⟩:=Jc hf (hl x (by simp))
  cases i with
  |zero=>exact I6 hn hnew h3
  |succ i=>exact I6 h1 h2 (Od hn hnew (fun y hy=>hl y (by simp [hy])) h3 (by simpa using hi) (by simpa using hi'))
theorem S6 (l m:List MapEntry):C1 (l ++ m)=C1 l ++ C1 m:=by simp [C1]
theorem V8 {E:Env} {sz:Nat} {new:List AV} {e1:MapEntry} (hn:new.length=sz) (hnew:FVc E new (D7 e1)):FVr E sz [new] (C1 [e1]):=I6 hn hnew (by simp [FVr,C1])
theorem VV {d:TypeDesc} {v:Value} (h:IsKey d v):v.oneCell'=true:=by
 cases d <;> cases v <;> simp_all [IsKey] <;> rfl
theorem LG {es:Array MapEntry} {i:Nat} {x:MapEntry} (f:MapEntry→MapEntry) (h:es.toList[i]?= some x):(es.modify i f).toList=es.toList.set i (f x):=by
 apply List.ext_getElem?
 intro j;simp only [Array.getElem?_toList,Array.getElem?_modify,List.getElem?_set];rw [Array.getElem?_toList] at h
 by_cases hj:i=j
 ·subst hj;obtain ⟨hlt,hge⟩:=Array.getElem?_eq_some_iff.1 h
  simp [hlt,hge]
 simp [hj]
theorem Rel.putMap {C:Ctx} {E:Env} {X:Nat→List Value} {σ:St} {a:Act} (hr:Rel C E X σ a) {r:Nat} {o:Obj} (hob:Al σ.objs r=some o) (hs:o.slc=true) (hcl:o.cl=true) {bb:Nat} (hH:E.H r= .map (some bb)) {es:Array MapEntry} {clk:Nat} (hg:E.w.heap[bb]?= some (.map es clk))
 (es':Array MapEntry) (clk':Nat) (hwf:MapWf o.sz es' clk') (rows':List (List AV)) (hf:FVr E.clear o.sz rows' (C1 es'.toList)) :
 ∃ E' X',E'.w={ E.w with heap:=E.w.heap.setIfInBounds bb (.map es' clk') }∧Rel C E' X' { σ with objs:=(r,⟨true,o.elem,o.sz,rows',true⟩) :: Ct σ.objs r } a:=by
 have hset:=Go.MapKept.heap_set (o':= .map es' clk') hg
 have hbo:blockOf (E.H r)=some bb:=by rw [hH];rfl
 have hle:E.clear.le (Env.clear { E with w:={ E.w with heap:=E.w.heap.setIfInBounds bb (.map es' clk') } }):=⟨fun k hk=>⟨hk,hset.2 k (fun e=>(hr.stay k hk).2 r o hob (e ▸ hbo))⟩,fun r hr=>hr.elim⟩
 obtain ⟨h1,_⟩:=hr.update (o':=⟨true,o.elem,o.sz,rows',true⟩) (w':={ E.w with heap:=E.w.heap.setIfInBounds bb (.map es' clk') }) (xs':=C1 es'.toList) hob hbo rfl ⟨rfl,Nat.le_refl _⟩ rfl (by simp) (fun k hk=>hset.2 k hk) rfl
  (by unfold ObjOK;exact .inr (.inr ⟨bb,es',clk',hH,hset.1,hwf,rfl⟩)) (FVr.le _ _ hle _ hf)
 exact ⟨_,_,rfl,h1⟩
theorem CU {C:Ctx} {E:Env} {X:Nat→List Value} {a:Act} (hr:Rel C E X ⟨s,b,n,t,e⟩ a) {v:Value} (hx:AJ s x=some (.lit v)):a.eval x=v:=by
 have h:=hr.ev x;rw [AB hx] at h
 simpa [FV] using h
theorem YK {v:V} (b':List (Nat × Obj)) (h:KL d kv) (ht:ES P mt=some (d,some (vv z0))) (hv:∀ u,(vv u).oneCell'=true) (hx:AJ s x=some (.hd r):=by exact rfl) (ho:Al b r=some ⟨true,el,3,m.map (G5 kv vv),true⟩:=by exact rfl) (hy:AJ s y=some (.lit (kv k)):=by exact rfl) (hz:AJ s z=some (.lit (vv v)):=by exact rfl)
 (hdel:Ct b r=b':=by exact rfl) (hg:AL (AU ops) ⟨s,b,n,t,e⟩ g=some true:=by exact rfl) (hn:SeqL P ops rest ⟨s,(r,⟨true,el,3,(mput m k v).map (G5 kv vv),true⟩) :: b',n,t,e⟩ Q) :
 SeqL P ops (⟨none, .mapUpdate mt x y z,ty,pos,aft,g⟩ :: rest) ⟨s,b,n,t,e⟩ Q:=by
 subst hdel;refine SeqL.of_skip hg fun C E X a hr=>?_;obtain ⟨kt,et,z1,ht1,ht2,hzz,hz1⟩:=Gm ht;obtain ⟨_,hZ,hok,hrr⟩:=hr.objs r _ ho;have hxv:=hr.ev x;rw [AB hx] at hxv;obtain ⟨bb,es,clk,hH,hgg,hwf,hfl,hxe⟩:=hok.asMap rfl hxv;rw [← hfl] at hrr;have hye:=CU hr hy;have hze:=CU hr hz;have hik:=M0 (h.key k)
 have hun:isUnit (vv v)=false:=by
  have:=hv v
  cases hvv:vv v <;> simp [hvv,isUnit] at this ⊢
  simp [Value.oneCell'] at this
 have hvc:FU (vv v)=[vv v]:=by simp [FU,hun]
 have hnew:∀ st:Nat,FVc E.clear (G5 kv vv (k,v)) (D7 ⟨kv k,vv v,st⟩):=by
  intro st;simp only [D7,hvc,G5,FVc];exact ⟨_,_,rfl,VV hik,by simp [FV],_,_,rfl,rfl,by simp [FV],_,_,rfl,hv v,by simp [FV],rfl⟩
 have hlen:∀ st:Nat,(D7 ⟨kv k,vv v,st⟩).length=3:=fun st=>by simp [D7,hvc]
 rcases GA (show (0:Nat) < 3 by decide) hwf.len hrr (KX (vv:=vv) h k m 0) with ⟨h1,h2,h3⟩ | ⟨j,v1,vs,e1,h1,h2,h3,h4,h5,h6,h7⟩
 ·have hm0:mget m k=none:=by simpa using h1
  have hne:∀ x ∈ es.toList,x.key≠kv k:=fun x hx e=>by
   have:=h3 x hx;rw [e,h.same] at this
   simp at this
  obtain ⟨E',X',hw,hr'⟩:=hr.putMap ho rfl rfl hH hgg (es.push { key:=kv k,val:=vv v,born:=clk }) (clk+1) ⟨stamped_push hwf.st hne,fun x hx=>by
   simp only [Array.toList_push,List.mem_append,List.mem_singleton] at hx
   rcases hx with hx | rfl
   ·exact hwf.len x hx
   exact hlen clk⟩ ((mput m k v).map (G5 kv vv)) (by
   rw [SR v hm0,List.map_append,Array.toList_push,S6]
   exact hrr.append (V8 rfl (hnew clk)))
  refine ⟨E',X',_,?_,hr',hn⟩
  unfold execOp
  simp [hxe,hye,hze,Instr.mapUpdate,run_underlying ht1,Go.MapKept.run_getObj_map hgg,Go.MapKept.run_checkKey ht2 hik,Go.MapKept.run_findKey ht2 h2,Go.MapKept.run_setObj_map _ hgg,Result.andThen,hw]
 have hj:es.toList[j]?= some e1:=h3
 have hj':es[j]?= some e1:=by simpa using h3
 have hke:e1.key=kv k:=by
  rw [h4] at h7 ⊢
  have hmk:∃ p ∈ m,kv p.1=v1:=by
   rw [List.getElem?_map,Option.map_eq_some_iff] at h2;obtain ⟨p,hp,hp2⟩:=h2;simp only [G5,List.cons.injEq,AV.lit.injEq] at hp2;exact ⟨p,List.mem_of_getElem? hp,hp2.1⟩
  obtain ⟨p,_,rfl⟩:=hmk;rw [h.same] at h7;simp only [Option.some.injEq,decide_eq_true_eq] at h7;rw [h7]
 obtain ⟨u,hu⟩:∃ u,mget m k=some u:=by
  cases hm:mget m k with
  |none=>rw [hm] at h1;simp at h1
  |some u=>exact ⟨u,rfl⟩
 have hjp:j=mpos m k:=by
  rw [hu] at h1;simp only [Option.map_some,Option.some.injEq,Prod.mk.injEq] at h1;omega
 obtain ⟨E',X',hw,hr'⟩:=hr.putMap ho rfl rfl hH hgg (es.modify j fun x=>{ x with key:=kv k,val:=vv v }) clk ⟨stamped_modify hwf.st _ _ (fun _ _=>rfl) (fun x _ hx=>by rw [hj'] at hx;cases hx;exact hke.symm),fun x hx=>by
  rw [LG _ hj] at hx
  rcases List.mem_or_eq_of_mem_set hx with hx | rfl
  ·exact hwf.len x hx
  exact hlen _⟩ ((mput m k v).map (G5 kv vv)) (by
  rw [SS v hu,List.map_set,LG _ hj, ← hjp];refine Od rfl (hnew _) hwf.len hrr ?_ (List.getElem?_eq_some_iff.1 hj).1;rw [List.length_map];have:=(List.getElem?_eq_some_iff.1 (Ux hu)).1
  omega)
 refine ⟨E',X',_,?_,hr',hn⟩
 have h6':Instr.findNow d (kv k) es.toList 0=some (some (j,e1.val)):=by simpa using h6
 unfold execOp
 simp [hxe,hye,hze,Instr.mapUpdate,run_underlying ht1,Go.MapKept.run_getObj_map hgg,Go.MapKept.run_checkKey ht2 hik,Go.MapKept.run_findKey ht2 h6',hj',hke,run_keyThatStays hik,Go.MapKept.run_setObj_map _ hgg,Result.andThen,hw]
theorem Wk.frzm {sz:Nat} {rows:List (List AV)} (ds:List Nat) (b':List (Nat × Obj)) (hs:∀ d ∈ ds,Al s d=some (.hd r)) (ho:Al b r=some ⟨true,el,sz,rows,true⟩:=by exact rfl) (hk:Nat.ble e r=true:=by exact rfl) (hb:Ct b r=b':=by exact rfl) (hex:∃ d,Al s d=some (.hd r)) :
 Wk ⟨s,b,n,t,e⟩ ⟨ds.map (fun d=>(d, .shm sz rows)) ++ s,b',n,t,e⟩:=by
 subst hb;intro C E X a hr;obtain ⟨g1,g2,g3,g4⟩:=hr.objs r _ ho
 have hmap:∃ bb es clk,E.H r= .map (some bb)∧E.w.heap[bb]?= some (.map es clk)∧MapWf sz es clk∧C1 es.toList=X r:=by
  obtain ⟨d0,hd0⟩:=hex;obtain ⟨bb,es,clk,h1,h2,h3,h4,_⟩:=g3.asMap rfl (hr.slots d0 _ hd0);exact ⟨bb,es,clk,h1,h2,h3,h4⟩
 obtain ⟨bb,es,clk,hH,hg,hwf,hfl⟩:=hmap
 have hbo:blockOf (E.H r)=some bb:=by rw [hH];rfl
 let E':Env:={ E with S:=fun k=>E.S k∨bb=k }
 have hle':E.le E':=⟨fun k hk=>⟨.inl hk,rfl⟩,fun r hD=>⟨hD,rfl,rfl⟩⟩
 have hd:∀ r' o',Al (Ct b r) r'=some o'→Al b r'=some o'∧r'≠r:=by
  intro r' o' hf;rw [Cj] at hf
  split at hf
  ·cases hf
  rename_i e;exact ⟨hf,fun e'=>e e'.symm⟩
 have hval:∀ x,FV E (.hd r) x→FV E' (.shm sz rows) x:=by
  intro x hx;obtain ⟨b2,es2,clk2,h1,h2,h3,h4,rfl⟩:=g3.asMap rfl hx;rw [hH] at h1;simp only [Value.map.injEq,Option.some.injEq] at h1;subst h1;simp only [FV];refine .inr ⟨bb,es2,clk2,rfl, .inr rfl,h2,h3,?_⟩;rw [h4];exact FVr.le _ _ hle'.clear _ g4
 have hsl:∀ s' v,Al (ds.map (fun d=>(d,AV.shm sz rows)) ++ s) s'=some v→(v= .shm sz rows∧s' ∈ ds)∨Al s s'=some v:=by
  clear hs;intro s' v hv
  induction ds with
  |nil=>exact .inr hv
  |cons d0 ds ih =>
   rw [List.map_cons,List.cons_append,A8] at hv
   split at hv
   ·rename_i e'
    simp only [Option.some.injEq] at hv;exact .inl ⟨hv.symm,by simp [e']⟩
   rcases ih hv with ⟨h1,h2⟩ | h1
   ·exact .inl ⟨h1,by simp [h2]⟩
   exact .inr h1
 refine ⟨E',X,rfl,⟨?_,hr.size,hr.defers,?_,?_,?_,hr.fresh,hr.kept,?_,?_,hr.envD,?_,?_,hr.envk,hr.glob.le hle'⟩⟩
 ·intro s' v hv
  rcases hsl s' v hv with ⟨rfl,hm⟩ | hv
  ·exact hval _ (hr.slots s' _ (hs s' hm))
  exact FV.le _ hle' _ (hr.slots s' v hv)
 ·intro r' o' hf;obtain ⟨hf,hne⟩:=hd r' o' hf;obtain ⟨k1,k2,k3,k4⟩:=hr.objs r' o' hf;exact ⟨k1,k2,k3,FVr.le _ _ (hle'.by _) _ k4⟩
 ·intro r1 r2 o1 o2 b h1 h2 hb1 hb2;exact hr.apart r1 r2 o1 o2 b (hd r1 o1 h1).1 (hd r2 o2 h2).1 hb1 hb2
 ·rintro k (hk | rfl)
  ·exact ⟨(hr.stay k hk).1,fun r' o' hf=>(hr.stay k hk).2 r' o' (hd r' o' hf).1⟩
  refine ⟨g3.lt hbo,fun r' o' hf e=>?_⟩;obtain ⟨hf,hne⟩:=hd r' o' hf;exact hne (hr.apart r' r o' _ _ hf ho e hbo)
 ·intro r' o' k hf hk;exact hr.mine r' o' k (hd r' o' hf).1 hk
 ·intro r' hk;exact hr.env r' hk
 ·intro k hk;exact .inl (hr.base k hk)
 rintro k (hk | rfl)
 ·exact hr.grow k hk
 rcases hr.mine r _ _ ho hbo with h | h
 ·exact .inr (.inr h)
 exact .inr (.inl h)
theorem Wk.objw {rows rows':List (List AV)} {slc:Bool} {sz:Nat} (r:Nat) (b':List (Nat × Obj)) (ho:Al b r=some ⟨slc,el,sz,rows,cl⟩) (hl:rows'.length=rows.length) (hw:∀ (E:Env) xs,FVr E sz rows xs→FVr E sz rows' xs) (hb:Ct b r=b') :
 Wk ⟨s,b,n,t,e⟩ ⟨s,(r,⟨slc,el,sz,rows',cl⟩) :: b',n,t,e⟩:=by
 subst hb;intro C E X a hr
 have hd:∀ r' o',Al ((r,(⟨slc,el,sz,rows',cl⟩:Obj)) :: Ct b r) r'=some o'→(r'=r∧o'=⟨slc,el,sz,rows',cl⟩)∨Al b r'=some o':=by
  intro r' o' hf;rw [A8] at hf
  split at hf
  ·rename_i e
   simp only [Option.some.injEq] at hf;exact .inl ⟨e.symm,hf.symm⟩
  rename_i e
  rw [Cj,if_neg e] at hf;exact .inr hf
 have hd':∀ r' o',Al ((r,(⟨slc,el,sz,rows',cl⟩:Obj)) :: Ct b r) r'=some o'→∃ o'',Al b r'=some o'':=by
  intro r' o' hf
  rcases hd r' o' hf with ⟨rfl,_⟩ | h
  ·exact ⟨_,ho⟩
  exact ⟨_,h⟩
 refine ⟨E,X,rfl,⟨hr.slots,hr.size,hr.defers,?_,?_,?_,hr.fresh,hr.kept,?_,hr.env,hr.envD,hr.base,hr.grow,hr.envk,hr.glob⟩⟩
 ·intro r' o' hf
  rcases hd r' o' hf with ⟨rfl,rfl⟩ | h
  ·obtain ⟨k1,k2,k3,k4⟩:=hr.objs _ _ ho;refine ⟨k1,k2,?_,hw _ _ k4⟩
   unfold ObjOK at k3 ⊢
   cases slc with
   |true =>
    rcases k3 with ⟨h1,h2,h3⟩ | ⟨bb,cap,cur,h1,h2,h3,h4,h5,h6⟩ | h
    ·exact .inl ⟨h1,List.eq_nil_of_length_eq_zero (by rw [hl];simpa using congrArg List.length h2),h3⟩
    ·exact .inr (.inl ⟨bb,cap,cur,by simpa [hl] using h1,h2,by simpa [hl] using h3,h4,h5,by simpa [hl] using h6⟩)
    exact .inr (.inr h)
   |false =>
    rcases k3 with ⟨bb,h1,h2,h3⟩ | ⟨bb,it,h1,h2,h3⟩
    ·exact .inl ⟨bb,h1,by simpa [hl] using h2,h3⟩
    exact .inr ⟨bb,it,h1,by simpa [hl] using h2,h3⟩
  exact hr.objs r' o' h
 ·intro r1 r2 o1 o2 k h1 h2 hb1 hb2;obtain ⟨o1',g1⟩:=hd' r1 o1 h1;obtain ⟨o2',g2⟩:=hd' r2 o2 h2;exact hr.apart r1 r2 o1' o2' k g1 g2 hb1 hb2
 ·intro k hk
  exact ⟨(hr.stay k hk).1,fun r' o' hf=>by
   obtain ⟨o'',g⟩:=hd' r' o' hf
   exact (hr.stay k hk).2 r' o'' g⟩
 intro r' o' k hf hk;obtain ⟨o'',g⟩:=hd' r' o' hf;exact hr.mine r' o'' k g hk
def nsh1:Nat→AV→AV
 |k+1, .lit (.slice none 0 0)=> .sh k []
 |_,v=>v
def nshL:List Nat→List AV→List AV
 |k :: m,v :: l=>nsh1 k v :: nshL m l
 |_,l=>l
def nshR:List (List Nat)→List (List AV)→List (List AV)
 |m :: M,r :: R=>nshL m r :: nshR M R
 |_,R=>R
theorem FV.nsh1 {E:Env} (k:Nat) (v:AV) (x:Value) (h:FV E v x):FV E (AM.nsh1 k v) x:=by
 unfold AM.nsh1
 split
 ·simp only [FV] at h ⊢;exact ⟨none,0,[],h,Nat.le_refl _,by simp [FVr],fun h=>absurd rfl h⟩
 exact h
theorem FVc.nshL {E:Env}:∀ (m:List Nat) (l:List AV) (xs:List Value),FVc E l xs→FVc E (AM.nshL m l) xs
 |[],_,_,h=>by simpa [AM.nshL] using h
 |k :: m,[],_,h=>by simpa [AM.nshL] using h
 |k :: m,v :: l,xs,h=>by
  simp only [AM.nshL,FVc] at h ⊢;obtain ⟨y,ys,rfl,h0,h1,h2⟩:=h;exact ⟨y,ys,rfl,h0,FV.nsh1 k v y h1,FVc.nshL m l ys h2⟩
theorem nshL_len:∀ (m:List Nat) (l:List AV),(nshL m l).length=l.length
 |[],_=>by simp [nshL]
 |_ :: _,[]=>by simp [nshL]
 |k :: m,v :: l=>by simp [nshL,nshL_len m l]
theorem nshR_len:∀ (M:List (List Nat)) (R:List (List AV)),(nshR M R).length=R.length
 |[],_=>by simp [nshR]
 |_ :: _,[]=>by simp [nshR]
 |m :: M,r :: R=>by simp [nshR,nshR_len M R]
theorem FVr.nshR {E:Env} {sz:Nat}:∀ (M:List (List Nat)) (R:List (List AV)) (xs:List Value),FVr E sz R xs→FVr E sz (AM.nshR M R) xs
 |[],_,_,h=>by simpa [AM.nshR] using h
 |_ :: _,[],_,h=>by simpa [AM.nshR] using h
 |m :: M,r :: R,xs,h=>by
  simp only [AM.nshR,FVr] at h ⊢;obtain ⟨ys,zs,rfl,h0,h1,h2⟩:=h;exact ⟨ys,zs,rfl,by rw [nshL_len];exact h0,FVc.nshL m r ys h1,FVr.nshR M R zs h2⟩
theorem Wk.nshr {rows:List (List AV)} {slc:Bool} {sz:Nat} (M:List (List Nat)) (r:Nat) (b':List (Nat × Obj)) (ho:Al b r=some ⟨slc,el,sz,rows,cl⟩:=by exact rfl) (hb:Ct b r=b':=by exact rfl) :
 Wk ⟨s,b,n,t,e⟩ ⟨s,(r,⟨slc,el,sz,nshR M rows,cl⟩) :: b',n,t,e⟩ :=
 Wk.objw r b' ho (nshR_len M rows) (fun E xs h=>FVr.nshR M rows xs h) hb
end rules
end
end Go.AM
