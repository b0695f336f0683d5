/-
  Part 3 of the proof: the abstract machine, proved sound over the model.
  Conditions: none.
-/
import Derived.Laws.IdiomRangeMap
import Derived.LoopN
import Derived.Test.YtaololdbooblkaaGreatDoorX2
set_option linter.unusedVariables false
set_option linter.unusedSimpArgs false
set_option linter.unusedSectionVars false
namespace Go.AM
open Go.MapKept
def ES (P:Program) (t:TypeId):Option (TypeDesc × Option Value) :=
 match P.underlying t with
 |some (.map k e)=>match P.underlying k,(P.info? e).bind (·.zero) with
  |some d,some z=>bif z.oneCell' && !isUnit z then some (d,some z) else bif isUnit z then some (d,none) else none
  |_,_=>none
 |_=>none
def msz:Option Value→Nat
 |some _=>3
 |none=>2
def zAV:Option Value→AV
 |some z=> .lit z
 |none=> .agg []
def keyB:TypeDesc→Value→Bool
 |.bool, .bool _=>true
 |.int k, .int k' _=>decide (k'=k)
 |.string, .string _=>true
 |_,_=>false
theorem M0 {d:TypeDesc} {v:Value} (h:keyB d v=true):IsKey d v:=by
 unfold keyB at h
 split at h <;> simp_all [IsKey]
theorem Gm {P:Program} {t:TypeId} {d:TypeDesc} {z:Option Value} (h:ES P t=some (d,z)):∃ k e z0,P.underlying t=some (.map k e)∧P.underlying k=some d∧(∀ w,(zeroValue e).run P w= .ok z0 w) ∧
 ((z=some z0∧z0.oneCell'=true∧isUnit z0=false)∨(z=none∧z0= .agg #[])):=by
 unfold ES at h
 split at h
 ·rename_i k e hu
  split at h
  ·rename_i d' z0 hd hz
   simp only [Option.bind_eq_some_iff] at hz;obtain ⟨i,hi,hz⟩:=hz
   have hzr:∀ w,(zeroValue e).run P w= .ok z0 w:=fun w=>by simp [zeroValue,typeInfo,hi,hz]
   refine ⟨k,e,z0,hu,?_⟩
   cases hb:(z0.oneCell' && !isUnit z0) with
   |true =>
    simp only [hb,cond_true,Option.some.injEq,Prod.mk.injEq] at h;simp only [Bool.and_eq_true,Bool.not_eq_true'] at hb;obtain ⟨rfl,rfl⟩:=h;exact ⟨hd,hzr, .inl ⟨rfl,hb.1,hb.2⟩⟩
   |false =>
    simp only [hb,cond_false] at h
    cases hu':isUnit z0 with
    |false=>simp [hu'] at h
    |true =>
     simp only [hu',cond_true,Option.some.injEq,Prod.mk.injEq] at h;obtain ⟨rfl,rfl⟩:=h;exact ⟨hd,hzr, .inr ⟨rfl,Na hu'⟩⟩
  cases h
 cases h
def Fh (d:TypeDesc) (k:Value):List (List AV)→Nat→Option (Option (Nat × List AV))
 |[],_=>some none
 |(.lit v :: vs) :: es,i=>match Instr.sameNow d k v with
  |some true=>some (some (i,vs))
  |some false=>Fh d k es (i+1)
  |none=>none
 |_ :: _,_=>none
theorem Jc {E:Env} {sz:Nat} {row:List AV} {rows:List (List AV)} {e:MapEntry} {es:List MapEntry} (h:FVr E sz (row :: rows) (C1 (e :: es))) (hl:(D7 e).length=sz):row.length=sz∧FVc E row (D7 e)∧FVr E sz rows (C1 es):=by
 simp only [FVr] at h;obtain ⟨ys,zs,h0,h1,h2,h3⟩:=h
 have e1:C1 (e :: es)=D7 e ++ C1 es:=by simp [C1]
 rw [e1] at h0;obtain ⟨rfl,rfl⟩:=List.append_inj h0 (by rw [hl,h2.length,h1]);exact ⟨h1,h2,h3⟩
theorem I6 {E:Env} {sz:Nat} {row:List AV} {rows:List (List AV)} {e:MapEntry} {es:List MapEntry} (h1:row.length=sz) (h2:FVc E row (D7 e)) (h3:FVr E sz rows (C1 es)):FVr E sz (row :: rows) (C1 (e :: es)):=by
 simp only [FVr];exact ⟨D7 e,C1 es,by simp [C1],h1,h2,h3⟩
theorem JA {E:Env} {sz:Nat} {e:MapEntry} {es:List MapEntry}:¬ FVr E sz [] (C1 (e :: es)):=by
 intro h;simp only [FVr,C1,List.map_cons,List.flatten_cons,D7] at h
 simp at h
theorem GY {E:Env} {sz:Nat} {row:List AV} {rows:List (List AV)} (h0:0 < sz):¬ FVr E sz (row :: rows) (C1 []):=by
 intro h;simp only [FVr,C1,List.map_nil,List.flatten_nil] at h;obtain ⟨ys,zs,h0',h1,h2,h3⟩:=h
 have:ys=[]:=by
  cases ys with
  |nil=>rfl
  |cons y ys=>simp at h0'
 subst this;have:=h2.length
 simp at this
 omega
theorem Qh {E:Env} {sz:Nat} (h0:0 < sz):∀ {rows:List (List AV)} {es:List MapEntry},(∀ e ∈ es,(D7 e).length=sz)→FVr E sz rows (C1 es)→rows.length=es.length∧∀ (i:Nat) (row:List AV),rows[i]?= some row→∃ e,es[i]?= some e∧row.length=sz∧FVc E row (D7 e)
 |[],[],_,_=>⟨rfl,fun i row h=>by simp at h⟩
 |[],e :: es,_,h=>absurd h JA
 |row :: rows,[],_,h=>absurd h (GY h0)
 |row :: rows,e :: es,hl,h=>by
  obtain ⟨h1,h2,h3⟩:=Jc h (hl e (by simp));obtain ⟨g1,g2⟩:=Qh h0 (fun e' he=>hl e' (by simp [he])) h3;refine ⟨by simp [g1],fun i row' hi=>?_⟩
  cases i with
  |zero=>simp at hi;subst hi;exact ⟨e,rfl,h1,h2⟩
  |succ i=>exact g2 i row' (by simpa using hi)
theorem GA {E:Env} {sz:Nat} {d:TypeDesc} {k:Value} (h0:0 < sz):∀ {rows:List (List AV)} {es:List MapEntry} {i:Nat} {r:Option (Nat × List AV)},(∀ e ∈ es,(D7 e).length=sz)→FVr E sz rows (C1 es)→Fh d k rows i=some r →
 (r=none∧Instr.findNow d k es i=some none∧∀ e ∈ es,Instr.sameNow d k e.key=some false) ∨
   ∃ j v vs e,r=some (i+j,vs)∧rows[j]?= some (.lit v :: vs)∧es[j]?= some e∧e.key=v∧FVc E (.lit v :: vs) (D7 e)∧Instr.findNow d k es i=some (some (i+j,e.val))∧Instr.sameNow d k e.key=some true
 |[],[],i,r,_,_,h=>by
  simp only [Fh,Option.some.injEq] at h;subst h;exact .inl ⟨rfl,rfl,by simp⟩
 |[],e :: es,i,r,_,hf,h=>absurd hf JA
 |row :: rows,[],i,r,_,hf,h=>absurd hf (GY h0)
 |row :: rows,e :: es,i,r,hl,hf,h=>by
  obtain ⟨h1,h2,h3⟩:=Jc hf (hl e (by simp))
  rcases row with _ | ⟨c,vs⟩
  ·simp [Fh] at h
  cases c <;> try (simp [Fh] at h;done)
  ·rename_i v
   simp only [Fh] at h
   have hk:e.key=v:=by
    have:=h2;simp only [FVc,D7,List.cons.injEq] at this;obtain ⟨y,ys,⟨rfl,rfl⟩,_,hy,_⟩:=this
    simpa [FV] using hy
   split at h
   ·rename_i hs
    simp only [Option.some.injEq] at h;subst h;refine .inr ⟨0,v,vs,e,rfl,rfl,rfl,hk,h2,?_,by rw [hk];exact hs⟩
    simp [Instr.findNow,hk,hs]
   ·rename_i hs
    rcases GA h0 (fun e' he=>hl e' (by simp [he])) h3 h with ⟨g1,g2,g3⟩ | ⟨j,v',vs',e',g1,g2,g3,g4,g5,g6,g7⟩
    ·refine .inl ⟨g1,by simp [Instr.findNow,hk,hs,g2],fun e' he=>?_⟩
     rcases List.mem_cons.1 he with rfl | he
     ·rw [hk];exact hs
     ·exact g3 e' he
    ·refine .inr ⟨j+1,v',vs',e',by rw [g1];congr 2;omega,by simpa using g2,by simpa using g3,g4,g5,?_,g7⟩;simp only [Instr.findNow,hk,hs,g6]
     congr 3
     omega
   ·cases h
def EN (σ:St):AV→Option (Nat × List (List AV))
 |.hd r=>(Al σ.objs r).bind fun o=>bif o.slc then some (o.sz,o.rows) else none
 |.shm sz rows=>some (sz,rows)
 |_=>none
theorem Rel.mapRows {C:Ctx} {E:Env} {X:Nat→List Value} {σ:St} {a:Act} (h:Rel C E X σ a) {v:AV} {x:Value} {sz:Nat} {rows:List (List AV)} (hm:AM.EN σ v=some (sz,rows)) (hx:FV E v x) :
 (x= .map none∧rows=[])∨∃ b es clk,x= .map (some b)∧E.w.heap[b]?= some (.map es clk)∧MapWf sz es clk∧FVr E sz rows (C1 es.toList):=by
 cases v <;> try (simp [AM.EN] at hm;done)
 case hd r =>
  simp only [AM.EN,Option.bind_eq_some_iff] at hm;obtain ⟨o,ho,hm⟩:=hm
  cases hs:o.slc with
  |false=>simp [hs] at hm
  |true =>
   simp only [hs,cond_true,Option.some.injEq,Prod.mk.injEq] at hm;obtain ⟨rfl,rfl⟩:=hm;obtain ⟨_,hZ,hok,hr⟩:=h.objs r o ho;obtain ⟨b,es,clk,hH,hg,hwf,hfl,rfl⟩:=hok.asMap hs hx;refine .inr ⟨b,es,clk,rfl,hg,hwf,?_⟩;rw [hfl];exact FVr.le _ _ (E.by_le o.cl) _ hr
 case shm sz' rows' =>
  simp only [AM.EN,Option.some.injEq,Prod.mk.injEq] at hm;obtain ⟨rfl,rfl⟩:=hm;simp only [FV] at hx
  rcases hx with ⟨rfl,rfl⟩ | ⟨b,es,clk,rfl,_,hg,hwf,hr⟩
  ·exact .inl ⟨rfl,rfl⟩
  exact .inr ⟨b,es,clk,rfl,hg,hwf,FVr.le _ _ E.clear_le _ hr⟩
def valAV:Option Value→List AV→Option AV
 |some _,[_,v]=>some v
 |none,[_]=>some (.agg [])
 |_,_=>none
def JS (z:Option Value) (ok:Bool):Option (Nat × List AV)→Option AV
 |none=>some (bif ok then .tup [zAV z, .lit (.bool false)] else zAV z)
 |some (_,vs)=>(valAV z vs).map fun u=>bif ok then .tup [u, .lit (.bool true)] else u
theorem Pu {v y:Value} (h:FU v=[y]):v=y:=by
 unfold FU at h
 cases hu:isUnit v with
 |true=>simp [hu] at h
 |false=>simpa [hu] using h
theorem Pt {v:Value} (h:FU v=[]):v= .agg #[]:=by
 unfold FU at h
 cases hu:isUnit v with
 |true=>exact Na hu
 |false=>simp [hu] at h
theorem Lo {E:Env} {z:Option Value} {v0:Value} {vs:List AV} {e:MapEntry} {u:AV} (h:FVc E (.lit v0 :: vs) (D7 e)) (hl:valAV z vs=some u):FV E u e.val:=by
 simp only [FVc,D7,List.cons.injEq] at h;obtain ⟨y,ys,⟨rfl,rfl⟩,_,hy,h⟩:=h
 unfold valAV at hl
 split at hl
 ·rename_i z s v
  simp only [Option.some.injEq] at hl;subst hl;simp only [FVc,List.cons.injEq] at h;obtain ⟨y,ys,⟨rfl,rfl⟩,_,_,y,ys,h1,_,h2,rfl⟩:=h;rw [Pu h1];exact h2
 ·rename_i s
  simp only [Option.some.injEq] at hl;subst hl;simp only [FVc,List.cons.injEq] at h;obtain ⟨y,ys,⟨rfl,rfl⟩,_,_,h1⟩:=h;rw [Pt h1]
  simp [FV,FVc]
 cases hl
theorem TF {E:Env} {z:Option Value} {z0:Value} (h:(z=some z0∧z0.oneCell'=true∧isUnit z0=false)∨(z=none∧z0= .agg #[])):FV E (zAV z) z0:=by
 rcases h with ⟨rfl,_⟩ | ⟨rfl,rfl⟩
 ·simp [zAV,FV]
 simp [zAV,FV,FVc]
theorem Local.lookup {P:Program} {σ:St} {o:Oper} {t:TypeId} {x i:Operand} {ok:Bool} {d:TypeDesc} {z:Option Value} {rows:List (List AV)} {k:Value} {r:Option (Nat × List AV)} {u:AV} (ho:o.op= .lookup t x i ok) (ht:ES P t=some (d,z)) (hm:EN σ (σ.ev x)=some (msz z,rows))
 (hk:toVal (σ.ev i)=some k) (hkb:keyB d k=true) (hf:Fh d k rows 0=some r) (hu:JS z ok r=some u):Local P σ o u [] :=
 Local.value fun C E X a hr=>by
  obtain ⟨kt,et,z0,ht1,ht2,hz,hzz⟩:=Gm ht;have hke:a.eval i=k:=FV.toVal hk (hr.ev i)
  have hpos:0 < msz z:=by cases z <;> simp [msz]
  have hik:=M0 hkb
  rcases hr.mapRows hm (hr.ev x) with ⟨hx,rfl⟩ | ⟨b,es,clk,hx,hg,hwf,hrow⟩
  ·simp only [Fh,Option.some.injEq] at hf;subst hf;simp only [JS,Option.some.injEq] at hu;subst hu;refine ⟨if ok then .tuple #[z0, .bool false] else z0,?_,?_⟩
   ·have h1:Instr.findNow d k [] 0=some none:=rfl
    unfold execOp
    cases ok <;> simp [ho,hx,hke,Instr.lookup,run_underlying ht1,Go.MapKept.run_checkKey ht2 hik,Go.MapKept.run_findKey ht2 h1,hz,Result.andThen]
   ·have:=TF (E:=E) hzz
    cases ok
    ·simpa using this
    ·simp only [cond_true,if_true,FV,FVs];exact ⟨_,rfl,_,_,rfl,this,_,_,rfl,by simp [FV],rfl⟩
  rcases GA hpos hwf.len hrow hf with ⟨rfl,h1,_⟩ | ⟨j,v,vs,e,rfl,_,_,h2,h3,h1,_⟩
  ·simp only [JS,Option.some.injEq] at hu;subst hu;refine ⟨if ok then .tuple #[z0, .bool false] else z0,?_,?_⟩
   ·unfold execOp
    cases ok <;> simp [ho,hx,hke,Instr.lookup,run_underlying ht1,Go.MapKept.run_getObj_map hg,Go.MapKept.run_checkKey ht2 hik,Go.MapKept.run_findKey ht2 h1,hz,Result.andThen]
   ·have:=TF (E:=E) hzz
    cases ok
    ·simpa using this
    ·simp only [cond_true,if_true,FV,FVs];exact ⟨_,rfl,_,_,rfl,this,_,_,rfl,by simp [FV],rfl⟩
  ·refine ⟨if ok then .tuple #[e.val, .bool true] else e.val,?_,?_⟩
   ·unfold execOp
    cases ok <;> simp [ho,hx,hke,Instr.lookup,run_underlying ht1,Go.MapKept.run_getObj_map hg,Go.MapKept.run_checkKey ht2 hik,Go.MapKept.run_findKey ht2 h1,Result.andThen]
   ·simp only [JS,Option.map_eq_some_iff] at hu;obtain ⟨u0,hu0,rfl⟩:=hu;have:=Lo h3 hu0
    cases ok
    ·simpa using this
    ·simp only [cond_true,if_true,FV,FVs];exact ⟨_,rfl,_,_,rfl,this,_,_,rfl,by simp [FV],rfl⟩
theorem Local.lenMap {P:Program} {σ:St} {o:Oper} {t:TypeId} {x:Operand} {d:TypeDesc} {z:Option Value} {rows:List (List AV)} (ho:o.op= .call { callee:= .builtin .len,args:= #[x],argTypes:= #[t] }) (ht:ES P t=some (d,z)) (hm:EN σ (σ.ev x)=some (msz z,rows)) :
 Local P σ o (.lit (.int .i64 ((rows.length:Nat):Int))) [] :=
 Local.value fun C E X a hr=>by
  obtain ⟨kt,et,z0,ht1,ht2,hz,hzz⟩:=Gm ht
  rcases hr.mapRows hm (hr.ev x) with ⟨hx,rfl⟩ | ⟨b,es,clk,hx,hg,hwf,hrow⟩
  ·refine ⟨.int .i64 0,?_,by simp [FV]⟩
   unfold execOp
   simp [ho,resolve,invoke,builtin,Builtin.len_,hx,run_underlying ht1,Result.andThen,goInt]
  have hpos:rows.length=es.size:=by
   rw [(Qh (by cases z <;> simp [msz]) hwf.len hrow).1];simp
  refine ⟨.int .i64 es.size,?_,by simp [FV,hpos]⟩
  unfold execOp
  simp [ho,resolve,invoke,builtin,Builtin.len_,hx,run_underlying ht1,Go.MapKept.run_getObj_map hg,Result.andThen,goInt]
theorem Local.makeMap {P:Program} {σ:St} {o:Oper} {t:TypeId} {id sz:Nat} (ho:o.op= .makeMap t none):Local P σ o (.hd id) [(id,⟨true,t,sz,[],true⟩)] :=
 Local.allocO fun C E X a hr=>by
  refine ⟨.map (some E.w.heap.size), .map (some E.w.heap.size),[], .map #[] 0,?_,rfl, .inr (.inr ⟨_, #[],0,rfl,Go.heap_alloc_new _ _,⟨stamped_empty 0,by simp⟩,rfl⟩),by simp [FVr],fun E' hD hH hZ=>?_⟩
  ·unfold execOp
   simp only [ho,Option.map_none];rfl
  ·simp only [FV];exact ⟨hD, .inl ⟨_,hH,rfl⟩⟩
def entAV:List AV→Option AV
 |[_,v]=>some v
 |[_]=>some (.agg [])
 |_=>none
def HR (σ:St):AV→Option (AV × List AV)
 |.hd r=>(Al σ.objs r).bind fun o=>bif o.slc then none else match o.rows with
  |[[.rem _ [.lit k :: vs] _]]=>some (.lit k,vs)
  |_=>none
 |_=>none
theorem Local.entry {P:Program} {σ:St} {o:Oper} {x:Operand} {k u:AV} {vs:List AV} (ho:o.op= .entry x) (hi:HR σ (σ.ev x)=some (k,vs)) (hu:entAV vs=some u):Local P σ o (.tup [k,u]) [] :=
 Local.value fun C E X a hr=>by
  unfold HR at hi
  split at hi
  ·rename_i r hx
   simp only [Option.bind_eq_some_iff] at hi;obtain ⟨ob,hob,hi⟩:=hi
   cases hs:ob.slc with
   |true=>simp [hs] at hi
   |false =>
    simp only [hs,cond_false] at hi
    split at hi
    ·rename_i sz k0 vs0 rest hrows
     simp only [Option.some.injEq,Prod.mk.injEq] at hi;obtain ⟨rfl,rfl⟩:=hi;have hv:=hr.ev x;rw [hx] at hv;obtain ⟨_,hZ,hok,hrr⟩:=hr.objs r ob hob;obtain ⟨b,it,hH,hg,hxe,_,hit⟩:=hok.asIter hs hv;rw [hrows] at hrr;simp only [FVr,FVc] at hrr;obtain ⟨ys,zs,hcat,_,⟨y,ys',rfl,_,hfv,rfl⟩,rfl⟩:=hrr;simp only [List.append_nil] at hcat;simp only [FV] at hfv
     rcases hit with ⟨_,hX⟩ | ⟨m,clk,seen,rfl,hX⟩
     ·rw [hX] at hcat;simp only [List.cons.injEq,and_true] at hcat;subst hcat
      rcases hfv with ⟨_,h,_⟩ | ⟨_,_,_,_,_,_,h,_⟩
      ·cases h
      ·simp [itn,KD] at h
     rw [hX] at hcat;simp only [List.cons.injEq,and_true] at hcat;subst hcat
     rcases hfv with ⟨h,_⟩ | ⟨m',es,clk',seen',left,le,hitv,hS,hgm,hwf,_,hle,hfl,_⟩
     ·simp [itn,KD] at h
     obtain ⟨rfl,rfl,rfl⟩:=VU hitv
     rcases le with _ | ⟨e,le⟩
     ·exact absurd hfl (GY (by
       rcases sz with _ | sz
       ·exfalso
        simp only [FVr] at hfl;obtain ⟨_,_,_,h0,_⟩:=hfl
        simp at h0
       ·exact Nat.succ_pos _))
     ·obtain ⟨hmem,hback⟩:=hle e (by simp);obtain ⟨h1,h2,h3⟩:=Jc hfl (hwf.len e hmem)
      have h2':FVc E (.lit k0 :: vs0) (D7 e):=by
       have hle':(E.by ob.cl).clear.le E:=⟨fun b hb=>by cases hcl:ob.cl <;> simp [hcl,Env.by,Env.clear] at hb ⊢ <;> exact hb,fun r hr=>hr.elim⟩;exact FVc.le _ hle' _ h2
      have hg2:E.w.heap[m]?= some (.map es clk):=by cases hcl:ob.cl <;> simpa [hcl,Env.by,Env.clear] using hgm
      have hf:es.find? (·.born == e.born)=some e:=by rw [← Array.find?_toList];exact find_born e es.toList hwf.st.2.1 hmem
      refine ⟨.tuple #[e.key,e.val],?_,?_⟩
      ·unfold execOp
       simp only [ho,hxe,Instr.entry,getObj,Sem.run_bind,Sem.run,hg,hg2,Result.andThen,hback,bne_self_eq_false,Bool.false_eq_true,if_false,hf];rfl
      ·have hk:e.key=k0:=by
        have:=h2';simp only [FVc,D7,List.cons.injEq] at this;obtain ⟨y,ys,⟨rfl,rfl⟩,_,hy,_⟩:=this
        simpa [FV] using hy
       simp only [FV,FVs];refine ⟨_,rfl,_,_,rfl,hk,_,_,rfl,?_,rfl⟩
       unfold entAV at hu
       split at hu
       ·exact Lo (z:=some undef) h2' (by simpa [valAV] using hu)
       ·exact Lo (z:=none) h2' (by simpa [valAV] using hu)
       ·cases hu
    ·cases hi
  ·cases hi
theorem Local.range {P:Program} {σ:St} {o:Oper} {t:TypeId} {x:Operand} {id sz:Nat} {rows:List (List AV)} {p:TypeDesc × Option Value} (ho:o.op= .range t x) (ht:ES P t=some p) (hx:σ.ev x= .shm sz rows) :
 Local P σ o (.hd id) [(id,⟨false,0,1,[[.rem sz [] rows]],true⟩)] :=
 Local.allocO fun C E X a hr=>by
  obtain ⟨kt,et,z0,ht1,_⟩:=Gm (d:=p.1) (z:=p.2) ht;have hv:=hr.ev x;rw [hx] at hv;simp only [FV] at hv
  rcases hv with ⟨hxe,rfl⟩ | ⟨b,es,clk,hxe,hS,hg,hwf,hrow⟩
  ·refine ⟨.pointer (some ⟨E.w.heap.size,0,none⟩), .chan (some E.w.heap.size),[itn], .mapIter none 0 #[] 0,?_,rfl, .inr ⟨_,_,rfl,rfl,Go.heap_alloc_new _ _, .inl ⟨rfl,rfl⟩⟩,?_,fun E' hD hH hZ=>?_⟩
   ·unfold execOp
    simp [ho,hxe,Instr.range,run_underlying ht1,Result.andThen,newObj,Sem.run]
   ·simp only [FVr,FVc,Env.by];refine ⟨[itn],[],rfl,rfl,⟨_,[],rfl,rfl,?_,rfl⟩,rfl⟩
    simp [FV]
   ·simp only [FV];exact ⟨hD, .inr ⟨_,hH,rfl⟩⟩
  have hlt:b < E.w.heap.size:=(hr.stay b hS).1;refine ⟨.pointer (some ⟨E.w.heap.size,0,none⟩), .chan (some E.w.heap.size),[KD b clk #[]], .mapIter (some b) clk #[] clk,?_,rfl, .inr ⟨_,_,rfl,rfl,Go.heap_alloc_new _ _, .inr ⟨b,clk, #[],rfl,rfl⟩⟩,?_,fun E' hD hH hZ=>?_⟩
  ·unfold execOp
   simp only [ho,hxe,Sem.run_bind,run_range_map E.w t kt et b es clk ht1 hg,Result.andThen_ok,Sem.run_pure]
  ·simp only [FVr,FVc,Env.by];refine ⟨[KD b clk #[]],[],rfl,rfl,⟨_,[],rfl,rfl,?_,rfl⟩,rfl⟩;simp only [FV];exact .inr ⟨b,es,clk, #[],es.toList,[],rfl,hS,hg,hwf,by rw [List.filter_eq_self.2 (fun e he=>by simp)],by simp,rfl,hrow⟩
  ·simp only [FV];exact ⟨hD, .inr ⟨_,hH,rfl⟩⟩
end Go.AM
namespace Go.AM
def P1 (P:Program) (ops:Array Oper) (Q:Exit→Act→World→Prop):List Oper→Act→World→Prop
 |[],a,w=>Q .normal a w
 |o :: rest,a,w=>if Region.wanted o (yielded ops a.tmps) then o.wp P a w (P1 P ops Q rest) Q else P1 P ops Q rest (a.put o.dst undef) w
@[irreducible] def F7 (P:Program) (ops:Array Oper) (Q:Exit→Act→World→Prop) (l:List Oper) (a:Act) (w:World):Prop:=P1 P ops Q l a w
theorem MM (P:Program) (ops:Array Oper) (Q:Exit→Act→World→Prop) (l:List Oper) (a:Act) (w:World):F7 P ops Q l a w=P1 P ops Q l a w:=by unfold F7;rfl
theorem Wz (P:Program) (ops:Array Oper) (Q:Exit→Act→World→Prop) (l:List Oper):F7 P ops Q l=P1 P ops Q l:=by funext a w;exact MM P ops Q l a w
theorem Gd (P:Program) (ops:Array Oper) (Q:Exit→Act→World→Prop) (a:Act) (w:World):F7 P ops Q [] a w=Q .normal a w:=by rw [MM];rfl
theorem CW (P:Program) (ops:Array Oper) (Q:Exit→Act→World→Prop) (o:Oper) (rest:List Oper) (a:Act) (w:World):F7 P ops Q (o :: rest) a w=if Region.wanted o (yielded ops a.tmps) then o.wp P a w (F7 P ops Q rest) Q else F7 P ops Q rest (a.put o.dst undef) w:=by
 rw [MM,Wz];rfl
theorem Ic {P:Program} {ops:Array Oper} {Q:Exit→Act→World→Prop}:∀ (n k:Nat),k+n=ops.size→∀ a w,F7 P ops Q (ops.toList.drop k) a w→wpOps P ops Q (List.range' k n) a w
 |0,k,hk,a,w,h=>by
  rw [List.drop_of_length_le (by simp;omega)] at h
  simpa [wpOps,Gd] using h
 |n+1,k,hk,a,w,h=>by
  have hlt:k < ops.size:=by omega
  rw [List.drop_eq_getElem_cons (by simpa using hlt)] at h;simp only [List.range'_succ,wpOps];have ho:ops[k]?= some ops[k]:=Array.getElem?_eq_getElem hlt;simp only [ho];simp only [CW,Array.getElem_toList] at h
  split
  ·rename_i hw
   simp only [hw,if_true] at h;exact .inl (Oper.wp_mono (fun a' w' h'=>Ic n (k+1) (by omega) a' w' h') h)
  ·rename_i hw
   simp only [hw,if_false,Bool.false_eq_true] at h;exact Ic n (k+1) (by omega) _ _ h
theorem KN {P:Program} {id:Nat} {ops:Array Oper} {Q:Exit→Act→World→Prop} {a:Act} {w:World} (h:F7 P ops Q ops.toList a w):(Code.region id ops false).wp P Q a w:=by
 refine wp_region ?_;rw [List.range_eq_range'];exact Ic ops.size 0 (by omega) a w (by simpa using h)
def SeqL (P:Program) (ops:Array Oper) (l:List Oper) (σ:St) (Q:St→Prop):Prop :=
 ∀ C E X a,Rel C E X σ a→∀ (Q':Exit→Act→World→Prop),(∀ E' X' σ' a',Rel C E' X' σ' a'→Q σ'→Q' .normal a' E'.w)→F7 P ops Q' l a E.w
def AL (ds:List (Option Nat)) (σ:St):Option (Nat × Bool)→Option Bool
 |none=>some true
 |some (j,want)=>match ds[j]? with
  |some (some d)=>match σ.get d with
   |.lit (.bool b)=>some (b == want)
   |.lit _=>some false
   |_=>none
  |_=>none
def AU (ops:Array Oper):List (Option Nat):=ops.toList.map (·.dst)
theorem Rel.guard {C:Ctx} {E:Env} {X:Nat→List Value} {σ:St} {a:Act} (h:Rel C E X σ a) {ops:Array Oper} {o:Oper} {b:Bool} (hg:AL (AU ops) σ o.guard=some b) :
 Region.wanted o (yielded ops a.tmps)=b:=by
 unfold AL at hg
 unfold Region.wanted
 split at hg
 ·rename_i hn
  simp only [Option.some.injEq] at hg
  simp [hn,hg]
 rename_i j want hn
 simp only [hn]
 split at hg
 ·rename_i d hd
  split at hg
  ·rename_i t ht
   simp only [Option.some.injEq] at hg;simp only [AU,List.getElem?_map,Option.map_eq_some_iff,Array.getElem?_toList] at hd;obtain ⟨o',ho',hd⟩:=hd;have hv:=h.ev (.tmp d);simp only [St.ev,ht,FV,Act.eval] at hv
   have hy:yielded ops a.tmps j=some t:=by
    unfold yielded
    simp only [ho',Option.bind_some,hd]
    by_cases hlt:d < a.tmps.size
    ·have:a.tmps[d]?= some (.bool t):=by
      rw [Array.getElem?_eq_getElem hlt]
      simpa [Array.getD,hlt] using hv
     simp [this]
    simp [Array.getD,hlt,undef] at hv
   rw [hy, ← hg]
   cases t <;> cases want <;> rfl
  ·rename_i u hnb hu
   simp only [Option.some.injEq] at hg;simp only [AU,List.getElem?_map,Option.map_eq_some_iff,Array.getElem?_toList] at hd;obtain ⟨o',ho',hd⟩:=hd;have hv:=h.ev (.tmp d);simp only [St.ev,hu,FV,Act.eval] at hv
   have hy:yielded ops a.tmps j=none:=by
    unfold yielded
    simp only [ho',Option.bind_some,hd]
    by_cases hlt:d < a.tmps.size
    ·have:a.tmps[d]?= some u:=by
      rw [Array.getElem?_eq_getElem hlt]
      simpa [Array.getD,hlt] using hv
     rw [this]
     split
     ·rename_i b hb
      simp only [Option.some.injEq] at hb;exact absurd hb (fun e=>hnb b e)
     rfl
    simp [hlt]
   rw [hy, ← hg];rfl
  cases hg
 cases hg
theorem SeqL.nil {P:Program} {ops:Array Oper} {σ:St} {Q:St→Prop} (h:Q σ):SeqL P ops [] σ Q:=fun C E X a hr Q' hq=>(Gd P ops Q' a E.w).symm ▸ hq E X σ a hr h
theorem SeqL.write {P:Program} {ops:Array Oper} {o:Oper} {rest:List Oper} {σ σ':St} {Q:St→Prop} (hg:AL (AU ops) σ o.guard=some true) (hw:Writer P σ o σ') (h:SeqL P ops rest σ' Q) :
 SeqL P ops (o :: rest) σ Q:=by
 intro C E X a hr Q' hq;simp only [CW,hr.guard hg,if_true];exact hw C E X a hr _ _ fun E' X' a' hr'=>h C E' X' a' hr' Q' hq
theorem SeqL.skip {P:Program} {ops:Array Oper} {o:Oper} {rest:List Oper} {σ:St} {Q:St→Prop} (hg:AL (AU ops) σ o.guard=some false) (hd:∀ d,o.dst=some d→d < σ.nt)
 (h:SeqL P ops rest (σ.put o.dst (.lit undef)) Q):SeqL P ops (o :: rest) σ Q:=by
 intro C E X a hr Q' hq;simp only [CW,hr.guard hg,if_false,Bool.false_eq_true];exact h C E X _ (hr.put o.dst hd (by simp [FV])) Q' hq
def Ev (P:Program) (c:Code) (σ:St) (Q:Exit→St→Prop):Prop :=
 ∀ C E X a,Rel C E X σ a→c.wp P (fun e a' w'=>∃ E' X' σ',E'.w=w'∧Rel C E' X' σ' a'∧Q e σ') a E.w
section ev
variable {P:Program} {σ:St} {Q:Exit→St→Prop}
theorem Ev.mono {c:Code} {Q':Exit→St→Prop} (h:Ev P c σ Q) (hq:∀ e σ',Q e σ'→Q' e σ'):Ev P c σ Q' :=
 fun C E X a hr=>wp_mono (h C E X a hr) fun e a' w' ⟨E',X',σ',h1,h2,h3⟩=>⟨E',X',σ',h1,h2,hq e σ' h3⟩
def GF (K:St→Prop) (Q:Exit→St→Prop):Exit→St→Prop
 |.normal,σ=>K σ
 |e,σ=>Q e σ
theorem Aj {x y:Code} (h:Ev P x σ (GF (fun σ'=>Ev P y σ' Q) Q)):Ev P (.seq x y) σ Q:=by
 intro C E X a hr;refine wp_seq (wp_mono (h C E X a hr) ?_);rintro e a' w' ⟨E',X',σ',rfl,h2,h3⟩
 cases e <;> simp only [Exit.then,GF] at h3 ⊢
 case normal=>exact h3 C E' X' a' h2
 all_goals exact ⟨E',X',σ',rfl,h2,h3⟩
theorem RZ {id:Nat} {ops:Array Oper} (h:SeqL P ops ops.toList σ (Q .normal)):Ev P (.region id ops false) σ Q:=by
 intro C E X a hr;exact KN (h C E X a hr _ fun E' X' σ' a' hr' hq=>⟨E',X',σ',rfl,hr',hq⟩)
theorem P8 {id:Nat} {l:List Oper} (h:∀ K:St→Prop,(∀ σ',Q .normal σ'→K σ')→SeqL P ⟨l⟩ l σ K):Ev P (.region id ⟨l⟩ false) σ Q :=
 RZ (h _ fun _ hq=>hq)
theorem Am (h:Q .normal σ):Ev P .skip σ Q:=fun C E X a hr=>wp_skip ⟨E,X,σ,rfl,hr,h⟩
theorem NZ {l:Nat} (h:Q .normal σ):Ev P (.label l) σ Q:=fun C E X a hr=>wp_label ⟨E,X,σ,rfl,hr,h⟩
theorem AA {id:Nat} (h:Q (.exit id) σ):Ev P (.exit id) σ Q:=fun C E X a hr=>wp_exit ⟨E,X,σ,rfl,hr,h⟩
theorem Ai (h:Q .ret σ):Ev P .ret σ Q:=fun C E X a hr=>wp_ret ⟨E,X,σ,rfl,hr,h⟩
def D2 (id:Nat) (Q:Exit→St→Prop):Exit→St→Prop
 |.exit id',σ=>if id'=id then Q .normal σ else Q (.exit id') σ
 |e,σ=>Q e σ
theorem Ev.block {id:Nat} {c:Code} (h:Ev P c σ (D2 id Q)):Ev P (.block id c) σ Q:=by
 intro C E X a hr;refine wp_block (wp_mono (h C E X a hr) ?_);rintro e a' w' ⟨E',X',σ',rfl,h2,h3⟩
 cases e <;> simp only [Exit.inBlock,D2] at h3 ⊢
 case exit id' =>
  split
  ·rename_i e
   simp only [e,if_true] at h3;exact ⟨E',X',σ',rfl,h2,h3⟩
  rename_i e
  simp only [e,if_false] at h3;exact ⟨E',X',σ',rfl,h2,h3⟩
 all_goals exact ⟨E',X',σ',rfl,h2,h3⟩
theorem Mk {c:Operand} {x y:Code} {b:Bool} (hc:σ.ev c= .lit (.bool b)) (ht:b=true→Ev P x σ Q) (hf:b=false→Ev P y σ Q):Ev P (.cond c x y) σ Q:=by
 intro C E X a hr;have hv:=hr.ev c;rw [hc] at hv;simp only [FV] at hv;exact wp_cond_split hv (fun e=>ht e C E X a hr) (fun e=>hf e C E X a hr)
def Wk (σ σ':St):Prop:=∀ C E X a,Rel C E X σ a→∃ E' X',E'.w=E.w∧Rel C E' X' σ' a
theorem Wk.refl (σ:St):Wk σ σ:=fun C E X a hr=>⟨E,X,rfl,hr⟩
theorem Av {c:Code} {σ':St} (hw:Wk σ σ') (h:Ev P c σ' Q):Ev P c σ Q:=by
 intro C E X a hr;obtain ⟨E',X',e,hr'⟩:=hw C E X a hr;rw [← e];exact h C E' X' a hr'
theorem SeqL.weaken {ops:Array Oper} {l:List Oper} {σ σ':St} {K:St→Prop} (hw:Wk σ σ') (h:SeqL P ops l σ' K):SeqL P ops l σ K:=by
 intro C E X a hr;obtain ⟨E',X',e,hr'⟩:=hw C E X a hr;rw [← e];exact h C E' X' a hr'
def FH {ι:Type} (I:ι→St) (μ:ι→Nat) (x:ι) (Q:Exit→St→Prop):Exit→St→Prop
 |.normal,σ'=>∃ y,μ y < μ x∧Wk σ' (I y)
 |e,σ'=>Q e σ'
theorem Ml {c:Code} {ι:Type} (I:ι→St) (μ:ι→Nat) (x0:ι) (h0:Wk σ (I x0)) (round:∀ x,Ev P c (I x) (FH I μ x Q)):Ev P (.loop c) σ Q:=by
 intro C E X a hr
 have key:∀ n x E X a,μ x < n→Rel C E X (I x) a →
  Code.rounds P c (fun e a' w'=>∃ E' X' σ',E'.w=w'∧Rel C E' X' σ' a'∧Q e σ') n a E.w:=by
  intro n
  induction n with
  |zero=>intro x E X a h;omega
  |succ n ih =>
   intro x E X a h hr;rw [rounds_succ];refine wp_mono (round x C E X a hr) ?_;rintro e a' w' ⟨E',X',σ',rfl,h2,h3⟩
   cases e <;> simp only [Exit.then,FH] at h3 ⊢
   case normal =>
    obtain ⟨y,hy,hw⟩:=h3;obtain ⟨E'',X'',e,hr'⟩:=hw C E' X' a' h2;rw [← e];exact ih y E'' X'' a' (by omega) hr'
   all_goals exact ⟨E',X',σ',rfl,h2,h3⟩
 obtain ⟨E',X',e,hr'⟩:=h0 C E X a hr;have:=key (μ x0+1) x0 E' X' a (by omega) hr';rw [← e];exact wp_loop_rounds _ this
end ev
def argSlots:Nat→List AV→List (Nat × AV)
 |_,[]=>[]
 |k,v :: vs=>(k,v) :: argSlots (k+1) vs
theorem find_argSlots:∀ (vs:List AV) (k s:Nat) (v:AV),Al (argSlots k vs) s=some v→k≤s∧vs[s - k]?= some v
 |[],k,s,v,h=>by simp [argSlots,Al] at h
 |u :: vs,k,s,v,h=>by
  simp only [argSlots] at h;rw [A8] at h
  split at h
  ·rename_i e
   simp only [Option.some.injEq] at h;subst e h
   simp
  ·obtain ⟨h1,h2⟩:=find_argSlots vs (k+1) s v h;refine ⟨by omega,?_⟩;rw [show s - k=(s - (k+1))+1 by omega]
   simpa using h2
def EG (P:Program) (f:FuncId):Prop:=∃ fn,P.funcs[f]?= some fn∧fn.body.isNone=false∧(fn.name == "runtime.NumGoroutine")=false
def Fun (P:Program) (f:FuncId) (args:List AV) (Post:AV→List (Nat × Obj)→Prop):Prop :=
 EG P f∧∀ (E:Env) (xs:List Value),FVs E.clear args xs→(∀ b,E.S b→b < E.w.heap.size)→LaidOK E.w E.S →
  Calls P f xs.toArray E.w (fun e w'=>∃ y v objs E' X',e= .returned y∧E'.w=w'∧Post v objs∧LocalPost E.clear v objs y E' X')
def AI (v:AV) (objs:List (Nat × Obj)) (v':AV) (objs':List (Nat × Obj)):Prop:=v'=v∧objs'=objs
theorem Fun.mono {P:Program} {f:FuncId} {args:List AV} {Post Post':AV→List (Nat × Obj)→Prop} (h:Fun P f args Post) (hp:∀ v objs,Post v objs→Post' v objs):Fun P f args Post' :=
 ⟨h.1,fun E xs h1 h2 h3=>(h.2 E xs h1 h2 h3).mono fun e w' ⟨y,v,objs,E',X',g1,g2,g3,g4⟩=>⟨y,v,objs,E',X',g1,g2,hp v objs g3,g4⟩⟩
mutual
def BX (ρ:Nat→Option Nat):AV→Option AV
 |.als r lo n=>(ρ r).map fun r'=> .als r' lo n
 |.adr r i j=>(ρ r).map fun r'=> .adr r' i j
 |.agg cs=>(Ef ρ cs).map .agg
 |.tup cs=>(Ef ρ cs).map .tup
 |.fn f first caps=>match Ef ρ first,Ef ρ caps with
  |some x,some y=>some (.fn f x y)
  |_,_=>none
 |.top=>some .top
 |.lit v=>some (.lit v)
 |.sh s rows=>some (.sh s rows)
 |.sadr row j=>some (.sadr row j)
 |.hd r=>(ρ r).map .hd
 |.shm s rows=>some (.shm s rows)
 |.rem s la rows=>some (.rem s la rows)
def Ef (ρ:Nat→Option Nat):List AV→Option (List AV)
 |[]=>some []
 |c :: cs=>match BX ρ c,Ef ρ cs with
  |some x,some xs=>some (x :: xs)
  |_,_=>none
end
structure Env.ren (ρ:Nat→Option Nat) (E E':Env):Prop where
 stay:∀ b,E.S b→E'.S b∧E'.w.heap[b]?= E.w.heap[b]?
 root:∀ r r',E.D r→ρ r=some r'→E'.D r'∧E'.H r'=E.H r∧E'.Z r'=E.Z r
theorem Env.ren.clear {ρ:Nat→Option Nat} {E E':Env} (h:E.ren ρ E'):E.clear.le E'.clear:=⟨h.stay,fun _ hr=>hr.elim⟩
mutual
theorem FV.ren {ρ:Nat→Option Nat} {E E':Env} (h:E.ren ρ E'):∀ {v v':AV} {x:Value},BX ρ v=some v'→FV E v x→FV E' v' x
 |.top,_,_,hv,_=>by simp only [BX,Option.some.injEq] at hv;subst hv;simp [FV]
 |.lit v,_,x,hv,hx=>by simp only [BX,Option.some.injEq] at hv;subst hv;simpa [FV] using hx
 |.sh s rows,_,x,hv,hx=>by
  simp only [BX,Option.some.injEq] at hv;subst hv;have:=FV.closed (v:= .sh s rows) rfl hx;exact FV.le _ E'.clear_le _ (FV.le _ h.clear _ this)
 |.sadr row j,_,x,hv,hx=>by
  simp only [BX,Option.some.injEq] at hv;subst hv;have:=FV.closed (v:= .sadr row j) rfl hx;exact FV.le _ E'.clear_le _ (FV.le _ h.clear _ this)
 |.shm s rows,_,x,hv,hx=>by
  simp only [BX,Option.some.injEq] at hv;subst hv;have:=FV.closed (v:= .shm s rows) rfl hx;exact FV.le _ E'.clear_le _ (FV.le _ h.clear _ this)
 |.rem s la rows,_,x,hv,hx=>by
  simp only [BX,Option.some.injEq] at hv;subst hv;have:=FV.closed (v:= .rem s la rows) rfl hx;exact FV.le _ E'.clear_le _ (FV.le _ h.clear _ this)
 |.hd r,_,x,hv,hx=>by
  simp only [BX,Option.map_eq_some_iff] at hv;obtain ⟨r',hr,rfl⟩:=hv;simp only [FV] at hx ⊢;obtain ⟨h1,h2,h3⟩:=h.root r r' hx.1 hr;rw [h2];exact ⟨h1,hx.2⟩
 |.als r lo n,_,x,hv,hx=>by
  simp only [BX,Option.map_eq_some_iff] at hv;obtain ⟨r',hr,rfl⟩:=hv;simp only [FV] at hx ⊢;obtain ⟨h1,h2,h3⟩:=h.root r r' hx.1 hr;rw [h2,h3];exact ⟨h1,hx.2⟩
 |.adr r i j,_,x,hv,hx=>by
  simp only [BX,Option.map_eq_some_iff] at hv;obtain ⟨r',hr,rfl⟩:=hv;simp only [FV] at hx ⊢;obtain ⟨h1,h2,h3⟩:=h.root r r' hx.1 hr;rw [h2,h3];exact ⟨h1,hx.2⟩
 |.agg cs,_,x,hv,hx=>by
  simp only [BX,Option.map_eq_some_iff] at hv;obtain ⟨cs',hr,rfl⟩:=hv;simp only [FV] at hx ⊢;obtain ⟨xs,e,hc⟩:=hx;exact ⟨xs,e,FVc.ren h hr hc⟩
 |.tup cs,_,x,hv,hx=>by
  simp only [BX,Option.map_eq_some_iff] at hv;obtain ⟨cs',hr,rfl⟩:=hv;simp only [FV] at hx ⊢;obtain ⟨xs,e,hc⟩:=hx;exact ⟨xs,e,FVs.ren h hr hc⟩
 |.fn f first caps,v',x,hv,hx=>by
  simp only [BX] at hv
  split at hv
  ·rename_i y z h1 h2
   simp only [Option.some.injEq] at hv;subst hv;simp only [FV] at hx ⊢;obtain ⟨xs,ys,e,g1,g2⟩:=hx;exact ⟨xs,ys,e,FVs.ren h h1 g1,FVs.ren h h2 g2⟩
  ·cases hv
theorem FVc.ren {ρ:Nat→Option Nat} {E E':Env} (h:E.ren ρ E'):∀ {cs cs':List AV} {xs:List Value},Ef ρ cs=some cs'→FVc E cs xs→FVc E' cs' xs
 |[],_,_,hv,hx=>by simp only [Ef,Option.some.injEq] at hv;subst hv;simpa [FVc] using hx
 |c :: cs,cs',xs,hv,hx=>by
  simp only [Ef] at hv
  split at hv
  ·rename_i y ys h1 h2
   simp only [Option.some.injEq] at hv;subst hv;simp only [FVc] at hx ⊢;obtain ⟨z,zs,e,h0,g1,g2⟩:=hx;exact ⟨z,zs,e,h0,FV.ren h h1 g1,FVc.ren h h2 g2⟩
  ·cases hv
theorem FVs.ren {ρ:Nat→Option Nat} {E E':Env} (h:E.ren ρ E'):∀ {cs cs':List AV} {xs:List Value},Ef ρ cs=some cs'→FVs E cs xs→FVs E' cs' xs
 |[],_,_,hv,hx=>by simp only [Ef,Option.some.injEq] at hv;subst hv;simpa [FVs] using hx
 |c :: cs,cs',xs,hv,hx=>by
  simp only [Ef] at hv
  split at hv
  ·rename_i y ys h1 h2
   simp only [Option.some.injEq] at hv;subst hv;simp only [FVs] at hx ⊢;obtain ⟨z,zs,e,g1,g2⟩:=hx;exact ⟨z,zs,e,FV.ren h h1 g1,FVs.ren h h2 g2⟩
  ·cases hv
end
def G3 (ρ:Nat→Option Nat):List (List AV)→Option (List (List AV))
 |[]=>some []
 |r :: rs=>match Ef ρ r,G3 ρ rs with
  |some x,some xs=>some (x :: xs)
  |_,_=>none
theorem KH {ρ:Nat→Option Nat}:∀ {cs cs':List AV},Ef ρ cs=some cs'→cs'.length=cs.length
 |[],_,h=>by simp only [Ef,Option.some.injEq] at h;subst h;rfl
 |c :: cs,cs',h=>by
  simp only [Ef] at h
  split at h
  ·rename_i y ys h1 h2
   simp only [Option.some.injEq] at h;subst h
   simp [KH h2]
  ·cases h
theorem KI {ρ:Nat→Option Nat}:∀ {cs cs':List (List AV)},G3 ρ cs=some cs'→cs'.length=cs.length
 |[],_,h=>by simp only [G3,Option.some.injEq] at h;subst h;rfl
 |c :: cs,cs',h=>by
  simp only [G3] at h
  split at h
  ·rename_i y ys h1 h2
   simp only [Option.some.injEq] at h;subst h
   simp [KI h2]
  ·cases h
theorem FVr.ren {ρ:Nat→Option Nat} {E E':Env} (h:E.ren ρ E') {sz:Nat}:∀ {rows rows':List (List AV)} {xs:List Value},G3 ρ rows=some rows'→FVr E sz rows xs→FVr E' sz rows' xs
 |[],_,_,hv,hx=>by simp only [G3,Option.some.injEq] at hv;subst hv;simpa [FVr] using hx
 |c :: cs,cs',xs,hv,hx=>by
  simp only [G3] at hv
  split at hv
  ·rename_i y ys h1 h2
   simp only [Option.some.injEq] at hv;subst hv;simp only [FVr] at hx ⊢;obtain ⟨z,zs,e,h0,g1,g2⟩:=hx;exact ⟨z,zs,e,by rw [KH h1];exact h0,FVc.ren h h1 g1,FVr.ren h h2 g2⟩
  ·cases hv
def Cz (ρ:Nat→Option Nat) (o:Obj):Option Obj :=
 match o.cl with
 |true=>some o
 |false=>(G3 ρ o.rows).map fun rows=>{ o with rows:=rows }
theorem CS {ρ:Nat→Option Nat} {o o':Obj} (h:Cz ρ o=some o'):o'.slc=o.slc∧o'.elem=o.elem∧o'.sz=o.sz∧o'.cl=o.cl∧o'.rows.length=o.rows.length∧(o.cl=true→o'.rows=o.rows)∧(o.cl=false→G3 ρ o.rows=some o'.rows):=by
 unfold Cz at h
 split at h
 ·rename_i hc
  simp only [Option.some.injEq] at h;subst h
  simp [hc]
 rename_i hc
 simp only [Option.map_eq_some_iff] at h;obtain ⟨rows,hr,rfl⟩:=h
 simp [hc,hr,KI hr]
theorem ObjOK.ren {w:World} {hd:Value} {xs:List Value} {o o':Obj} {ρ:Nat→Option Nat} (hr:Cz ρ o=some o') (h:ObjOK w hd xs o):ObjOK w hd xs o':=by
 obtain ⟨h1,h2,h3,_,h5,_,_⟩:=CS hr
 unfold ObjOK at h ⊢
 rw [h1]
 split
 ·rename_i hs
  rw [hs] at h
  simp only at h
  rcases h with ⟨e1,e2,e3⟩ | ⟨b,cap,cur,e1,e2,e3,e4,e5,e6⟩ | h
  ·exact .inl ⟨e1,List.eq_nil_of_length_eq_zero (by rw [h5,e2];rfl),e3⟩
  ·exact .inr (.inl ⟨b,cap,cur,by rw [h5];exact e1,by rw [h2];exact e2,by rw [h5];exact e3,e4,by rw [h3];exact e5,by rw [h5,h3];exact e6⟩)
  exact .inr (.inr (by rw [h3];exact h))
 rename_i hs
 rw [hs] at h
 simp only at h
 rcases h with ⟨b,e1,e2,e3⟩ | ⟨b,it,e1,e2,e3,e4⟩
 ·exact .inl ⟨b,e1,by rw [h5];exact e2,by rw [h2];exact e3⟩
 exact .inr ⟨b,it,e1,by rw [h5];exact e2,e3,e4⟩
theorem FVr.renObj {E E':Env} {xs:List Value} {o o':Obj} {ρ:Nat→Option Nat} (hr:AM.Cz ρ o=some o') (hE:E.ren ρ E') (h:FVr (E.by o.cl) o.sz o.rows xs):FVr (E'.by o'.cl) o'.sz o'.rows xs:=by
 obtain ⟨h1,h2,h3,h4,h5,h6,h7⟩:=CS hr;rw [h3,h4]
 cases hc:o.cl with
 |true =>
  rw [hc] at h;rw [h6 hc];exact FVr.le _ _ hE.clear _ h
 |false =>
  rw [hc] at h;exact FVr.ren hE (h7 hc) h
def pos:List Nat→Nat→Nat→Option Nat
 |[],_,_=>none
 |k :: ks,i,r=>bif Nat.beq k r then some i else pos ks (i+1) r
theorem pos_spec:∀ (ks:List Nat) (i r r':Nat),pos ks i r=some r'→i≤r'∧ks[r' - i]?= some r
 |[],_,_,_,h=>by simp [pos] at h
 |k :: ks,i,r,r',h=>by
  simp only [pos] at h
  by_cases e:k=r
  ·have hb:Nat.beq k r=true:=by rw [Nat.beq_eq];exact e
   simp only [hb,cond_true,Option.some.injEq] at h;subst e h
   simp
  ·have hb:Nat.beq k r=false:=by
    cases hc:Nat.beq k r
    ·rfl
    ·rw [Nat.beq_eq] at hc;exact absurd hc e
   simp only [hb,cond_false] at h;obtain ⟨h1,h2⟩:=pos_spec ks (i+1) r r' h;refine ⟨by omega,?_⟩;rw [show r' - i=(r' - (i+1))+1 by omega]
   simpa using h2
def BG (σ:St) (ρ:Nat→Option Nat):Nat→List Nat→Option (List (Nat × Obj))
 |_,[]=>some []
 |i,k :: ks=>match (Al σ.objs k).bind (Cz ρ),BG σ ρ (i+1) ks with
  |some o,some l=>some ((i,o) :: l)
  |_,_=>none
theorem BB {σ:St} {ρ:Nat→Option Nat}:∀ (ks:List Nat) (i:Nat) (l:List (Nat × Obj)),BG σ ρ i ks=some l→∀ r o',Al l r=some o'→∃ k o,i≤r∧ks[r - i]?= some k∧Al σ.objs k=some o∧Cz ρ o=some o'
 |[],i,l,h,r,o',hf=>by simp only [BG,Option.some.injEq] at h;subst h;simp [Al] at hf
 |k :: ks,i,l,h,r,o',hf=>by
  simp only [BG] at h
  split at h
  ·rename_i o1 l1 h1 h2
   simp only [Option.some.injEq] at h;subst h;rw [A8] at hf
   split at hf
   ·rename_i e
    simp only [Option.some.injEq] at hf;subst e hf;simp only [Option.bind_eq_some_iff] at h1;obtain ⟨o,ho,hro⟩:=h1;exact ⟨k,o,Nat.le_refl _,by simp,ho,hro⟩
   ·obtain ⟨k',o,g1,g2,g3,g4⟩:=BB ks (i+1) l1 h2 r o' hf;refine ⟨k',o,by omega,?_,g3,g4⟩;rw [show r - i=(r - (i+1))+1 by omega]
    simpa using g2
  ·cases h
theorem Gk {σ:St} {ρ:Nat→Option Nat}:∀ (ks:List Nat) (i:Nat) (l:List (Nat × Obj)),BG σ ρ i ks=some l→∀ r,i≤r→r < i+ks.length→∃ o',Al l r=some o'
 |[],i,l,h,r,h1,h2=>by simp at h2;omega
 |k :: ks,i,l,h,r,h1,h2=>by
  simp only [BG] at h
  split at h
  ·rename_i o1 l1 g1 g2
   simp only [Option.some.injEq] at h;subst h;rw [A8]
   split
   ·exact ⟨_,rfl⟩
   ·exact Gk ks (i+1) l1 g2 r (by omega) (by simp at h2;omega)
  ·cases h
def C2 (P:Program) (σ:St):List ResultVar→Option (List AV)
 |[]=>some []
 |.tmp t :: rs=>(C2 P σ rs).map fun vs=>σ.get t :: vs
 |.cell a t :: rs=>match EI P σ t (σ.get a),C2 P σ rs with
  |some v,some vs=>some (v :: vs)
  |_,_=>none
def packAV:List AV→AV
 |[v]=>v
 |vs=> .tup vs
theorem Rel.resList {P:Program} {C:Ctx} {E:Env} {X:Nat→List Value} {σ:St} {a:Act} (h:Rel C E X σ a):∀ (rs:List ResultVar) (vs:List AV),C2 P σ rs=some vs →
 ∃ ys,(rs.mapM (fun | .tmp t=>pure (a.tmps.getD t undef) | .cell p t=>do loadVar t (← asAddr (a.tmps.getD p undef)):ResultVar→Sem Value)).run P E.w= .ok ys E.w∧FVs E vs ys
 |[],vs,hv=>by
  simp only [C2,Option.some.injEq] at hv;subst hv;exact ⟨[],rfl,by simp [FVs]⟩
 |.tmp t :: rs,vs,hv=>by
  simp only [C2,Option.map_eq_some_iff] at hv;obtain ⟨vs',h1,rfl⟩:=hv;obtain ⟨ys,h2,h3⟩:=h.resList rs vs' h1;refine ⟨a.tmps.getD t undef :: ys,?_,?_⟩
  ·simp only [List.mapM_cons,Sem.run_bind,Sem.run_pure,Result.andThen_ok,h2]
  ·simp only [FVs];exact ⟨_,_,rfl,h.ev (.tmp t),h3⟩
 |.cell p t :: rs,vs,hv=>by
  simp only [C2] at hv
  split at hv
  ·rename_i v vs' h0 h1
   simp only [Option.some.injEq] at hv;subst hv;obtain ⟨ys,h2,h3⟩:=h.resList rs vs' h1;obtain ⟨y,h4,h5⟩:=h.loadAV h0 (h.ev (.tmp p))
   have hp:∃ ad,a.eval (.tmp p)= .pointer (some ad):=by
    have hv:=h.ev (.tmp p)
    have hc:∃ cs,AM.CM σ (σ.get p)=some cs:=by
     unfold AM.EI at h0
     split at h0
     ·rename_i cs _ hc;exact ⟨cs,hc⟩
     ·rename_i c cs _ hc;exact ⟨_,hc⟩
     ·cases h0
    obtain ⟨cs,hc⟩:=hc;obtain ⟨ad,_,he,_⟩:=h.cellsFrom hc hv;exact ⟨ad,he⟩
   obtain ⟨ad,hp⟩:=hp;simp only [Act.eval] at hp h4;rw [hp] at h4;simp only [Instr.loadAt,Instr.sureAddr,Sem.run_bind,Sem.run_pure,Result.andThen_ok] at h4;refine ⟨y :: ys,?_,?_⟩
   ·have ha:asAddr (.pointer (some ad))=pure ad:=rfl;simp only [List.mapM_cons,Sem.run_bind,Sem.run_pure,Result.andThen_ok,hp,ha,h4,h2]
   ·simp only [FVs];exact ⟨_,_,rfl,h5,h3⟩
  ·cases hv
theorem Rel.run_results {P:Program} {C:Ctx} {E:Env} {X:Nat→List Value} {σ:St} {a:Act} (h:Rel C E X σ a) {fn:Func} {vs:List AV} (hv:C2 P σ fn.results.toList=some vs) :
 ∃ y,(_root_.Go.results fn a.tmps).run P E.w= .ok y E.w∧FV E (packAV vs) y:=by
 obtain ⟨ys,h1,h2⟩:=h.resList _ _ hv;have hl:=h2.length;refine ⟨if h:ys.toArray.size=1 then ys.toArray[0] else .tuple ys.toArray,?_,?_⟩
 ·unfold _root_.Go.results
  simp only [Sem.run_bind,Array.mapM_eq_mapM_toList,Sem.run_map]
  erw [h1]
  rfl
 cases vs with
 |nil =>
  have:ys=[]:=List.eq_nil_of_length_eq_zero (by simpa using hl);subst this;simp only [packAV]
  simp [FV,FVs]
 |cons v vs =>
  cases vs with
  |nil =>
   simp only [FVs] at h2;obtain ⟨y,ys',rfl,h3,rfl⟩:=h2
   simpa [packAV] using h3
  |cons u vs =>
   simp only [packAV]
   have:¬ ys.toArray.size=1:=by simp [hl]
   rw [dif_neg this];simp only [FV];exact ⟨_,rfl,h2⟩
def Jq (P:Program) (rs:List ResultVar) (ks:List Nat) (Post:AV→List (Nat × Obj)→Prop) (σ:St):Prop :=
 match C2 P σ rs with
 |none=>False
 |some vs=>match BX (pos ks 0) (packAV vs),BG σ (pos ks 0) 0 ks with
  |some v,some objs=>Post v objs
  |_,_=>False
def Fg (P:Program) (rs:List ResultVar) (Post:AV→List (Nat × Obj)→Prop):Exit→St→Prop
 |.normal,σ | .ret,σ=>∃ ks,ks.Nodup∧Jq P rs ks Post σ
 |_,_=>False
theorem Fun.of_body {P:Program} {f:FuncId} {fn:Func} {c:Code} {args:List AV} {Post:AV→List (Nat × Obj)→Prop} (hf:P.funcs[f]?= some fn) (hb:fn.body=some c) (hnm:(fn.name == "runtime.NumGoroutine")=false)
 (hn:args.length≤fn.ntmps) (h:Ev P c ⟨argSlots 0 args,[],0,fn.ntmps,0⟩ (Fg P fn.results.toList Post)):Fun P f args Post:=by
 refine ⟨⟨fn,hf,by simp [hb],hnm⟩,fun E xs hx hS hG=>?_⟩;refine calls_of_wp hf hb ?_;have hxl:=hx.length
 let C:Ctx:=⟨E.w,fun _=>False,fun _=>undef,0,E.S,fun _=>0,[]⟩
 have hrel:Rel C E.clear (fun _=>[]) ⟨argSlots 0 args,[],0,fn.ntmps,0⟩ { tmps:=xs.toArray ++ Array.replicate (fn.ntmps - xs.toArray.size) undef,defers:=[] }:=by
  refine ⟨?_,?_,rfl,?_,?_,?_,?_,Keep.refl _ _,?_,?_,?_,fun b hb=>hb,fun b hb=> .inl hb,rfl,hG⟩
  ·intro s v hv;obtain ⟨_,h2⟩:=find_argSlots args 0 s v hv;simp only [Nat.sub_zero] at h2;obtain ⟨y,hy,hfv⟩:=hx.get h2;have hlt:s < xs.length:=(List.getElem?_eq_some_iff.1 hy).1
   have:(xs.toArray ++ Array.replicate (fn.ntmps - xs.toArray.size) undef).getD s undef=y:=by
    have e:(xs.toArray ++ Array.replicate (fn.ntmps - xs.toArray.size) undef)[s]?= some y:=by
     rw [Array.getElem?_append_left (by simpa using hlt)]
     simpa using hy
    rw [Array.getD_eq_getD_getElem?,e];rfl
   rw [this];exact hfv
  ·simp [hxl];omega
  ·intro r o hr;simp [Al] at hr
  ·intro r r' o o' b hr;simp [Al] at hr
  ·intro b hb;exact ⟨hS b hb,fun r o hr=>by simp [Al] at hr⟩
  ·intro r hr;exact hr.elim
  ·intro r o b hr;simp [Al] at hr
  ·intro r hr;exact absurd hr (Nat.not_lt_zero _)
  intro r hr;exact absurd hr (Nat.not_lt_zero _)
 have hend:∀ (E':Env) X' σ' a',Rel C E' X' σ' a'→∀ ks:List Nat,ks.Nodup→Jq P fn.results.toList ks Post σ' →
  ∃ y,(results fn a'.tmps).run P E'.w= .ok y E'.w∧∃ v objs E'' X'',E''.w=E'.w∧Post v objs∧LocalPost E.clear v objs y E'' X'':=by
  intro E' X' σ' a' hr ks hnd hret
  unfold Jq at hret
  split at hret
  ·exact hret.elim
  ·rename_i vs hvs
   split at hret
   ·rename_i v objs hv ho
    obtain ⟨y,hy1,hy2⟩:=hr.run_results hvs;refine ⟨y,hy1,v,objs,?_⟩
    let E'':Env:={ w:=E'.w,H:=fun r'=>match ks[r']? with | some k=>E'.H k | none=>undef,Z:=fun r'=>match ks[r']? with | some k=>E'.Z k | none=>0,D:=fun r'=>r' < ks.length,S:=E'.S }
    have hren:E'.ren (pos ks 0) E'':=by
     refine ⟨fun b hb=>⟨hb,rfl⟩,fun r r' hD hp=>?_⟩;obtain ⟨_,h2⟩:=pos_spec ks 0 r r' hp;simp only [Nat.sub_zero] at h2;exact ⟨(List.getElem?_eq_some_iff.1 h2).1,by simp [E'',h2],by simp [E'',h2]⟩
    refine ⟨E'',fun r'=>match ks[r']? with | some k=>X' k | none=>[],rfl,hret,⟨?_,?_,?_,?_,?_,?_,?_⟩⟩
    ·exact ⟨hr.kept.os,hr.kept.tape,hr.kept.output,hr.kept.size,fun b hb _=>hr.kept.block b hb (fun h=>h)⟩
    ·exact ⟨fun b hb=>⟨hr.base b hb,hr.kept.block b (hS b hb) (fun h=>h)⟩,fun r hD=>hD.elim⟩
    ·intro r hD;exact .inr (Gk ks 0 objs ho r (Nat.zero_le _) (by simpa [E''] using hD))
    ·intro b hb;obtain ⟨h1,h2⟩:=hr.stay b hb
     rcases hr.grow b hb with h | h | h
     ·exact .inl h
     ·refine .inr ⟨h,h1,fun r o hro e=>?_⟩;obtain ⟨k,o1,_,hk,hk2,_⟩:=BB ks 0 objs ho r o hro;simp only [Nat.sub_zero] at hk;simp only [E'',hk] at e;exact h2 k o1 hk2 e
     ·exact h.elim
    ·intro r o hro;obtain ⟨k,o1,_,hk,hk2,hk3⟩:=BB ks 0 objs ho r o hro;simp only [Nat.sub_zero] at hk;obtain ⟨g1,g2,g3,g4⟩:=hr.objs k o1 hk2;have hsp:=CS hk3;refine ⟨(List.getElem?_eq_some_iff.1 hk).1,fun h=>h,by simp [E'',hk,g2,hsp.2.2.1],?_,?_,?_⟩
     ·simp only [E'',hk];exact g3.ren hk3
     ·simp only [hk];exact FVr.renObj hk3 hren g4
     ·intro b hb;simp only [E'',hk] at hb
      rcases hr.mine k o1 b hk2 hb with h | h
      ·exact h.elim
      ·exact h
    ·intro r r' o o' b hro hro' hb hb';obtain ⟨k,o1,_,hk,hk2,hk3⟩:=BB ks 0 objs ho r o hro;obtain ⟨k',o1',_,hk',hk2',hk3'⟩:=BB ks 0 objs ho r' o' hro';simp only [Nat.sub_zero] at hk hk';simp only [E'',hk] at hb;simp only [E'',hk'] at hb';have:=hr.apart k k' o1 o1' b hk2 hk2' hb hb';subst this;obtain ⟨hl,he⟩:=List.getElem?_eq_some_iff.1 hk;obtain ⟨hl',he'⟩:=List.getElem?_eq_some_iff.1 hk';exact (List.getElem_inj hnd).1 (he.trans he'.symm)
    ·exact FV.ren hren hv hy2
   ·exact hret.elim
 refine wp_mono (h C E.clear _ _ hrel) ?_;rintro e a' w' ⟨E',X',σ',rfl,hr,hq⟩
 cases e <;> simp only [Fg] at hq
 case normal =>
  obtain ⟨ks,hnd,hq⟩:=hq;obtain ⟨y,hy,v,objs,E'',X'',h1,h2,h3⟩:=hend E' X' σ' a' hr ks hnd hq;exact ⟨hr.defers,y,hy,y,v,objs,E'',X'',rfl,h1,h2,h3⟩
 case ret =>
  obtain ⟨ks,hnd,hq⟩:=hq;obtain ⟨y,hy,v,objs,E'',X'',h1,h2,h3⟩:=hend E' X' σ' a' hr ks hnd hq;exact ⟨hr.defers,y,hy,y,v,objs,E'',X'',rfl,h1,h2,h3⟩
end Go.AM
namespace Go.AM
mutual
def noShAV:AV→Bool
 |.sh _ _=>false
 |.sadr _ _=>false
 |.shm _ _=>false
 |.rem _ _ _=>false
 |.hd _=>true
 |.agg cs=>noShL cs
 |.tup cs=>noShL cs
 |.fn _ first caps=>noShL first && noShL caps
 |.top=>true
 |.lit _=>true
 |.als _ _ _=>true
 |.adr _ _ _=>true
def noShL:List AV→Bool
 |[]=>true
 |c :: cs=>noShAV c && noShL cs
end
def Env.noS (E:Env):Env:={ E with S:=fun _=>False }
mutual
theorem FV.noSh {E:Env}:∀ {v:AV} {x:Value},noShAV v=true→FV E v x→FV E.noS v x
 |.sh _ _,_,h,_=>by simp [noShAV] at h
 |.sadr _ _,_,h,_=>by simp [noShAV] at h
 |.shm _ _,_,h,_=>by simp [noShAV] at h
 |.rem _ _ _,_,h,_=>by simp [noShAV] at h
 |.hd _,_,_,hx=>by simpa [FV,Env.noS] using hx
 |.top,_,_,_=>by simp [FV]
 |.lit _,_,_,hx=>by simpa [FV] using hx
 |.als _ _ _,_,_,hx=>by simpa [FV,Env.noS] using hx
 |.adr _ _ _,_,_,hx=>by simpa [FV,Env.noS] using hx
 |.agg cs,x,h,hx=>by
  simp only [noShAV] at h;simp only [FV] at hx ⊢;obtain ⟨xs,e,hc⟩:=hx;exact ⟨xs,e,FVc.noSh h hc⟩
 |.tup cs,x,h,hx=>by
  simp only [noShAV] at h;simp only [FV] at hx ⊢;obtain ⟨xs,e,hc⟩:=hx;exact ⟨xs,e,FVs.noSh h hc⟩
 |.fn f first caps,x,h,hx=>by
  simp only [noShAV,Bool.and_eq_true] at h;simp only [FV] at hx ⊢;obtain ⟨xs,ys,e,h1,h2⟩:=hx;exact ⟨xs,ys,e,FVs.noSh h.1 h1,FVs.noSh h.2 h2⟩
theorem FVc.noSh {E:Env}:∀ {cs:List AV} {xs:List Value},noShL cs=true→FVc E cs xs→FVc E.noS cs xs
 |[],_,_,hx=>by simpa [FVc] using hx
 |c :: cs,xs,h,hx=>by
  simp only [noShL,Bool.and_eq_true] at h;simp only [FVc] at hx ⊢;obtain ⟨y,ys,e,h0,h1,h2⟩:=hx;exact ⟨y,ys,e,h0,FV.noSh h.1 h1,FVc.noSh h.2 h2⟩
theorem FVs.noSh {E:Env}:∀ {cs:List AV} {xs:List Value},noShL cs=true→FVs E cs xs→FVs E.noS cs xs
 |[],_,_,hx=>by simpa [FVs] using hx
 |c :: cs,xs,h,hx=>by
  simp only [noShL,Bool.and_eq_true] at h;simp only [FVs] at hx ⊢;obtain ⟨y,ys,e,h1,h2⟩:=hx;exact ⟨y,ys,e,FV.noSh h.1 h1,FVs.noSh h.2 h2⟩
end
def Hu (rows:List (List AV)):Prop:=∀ r ∈ rows,noShL r=true
theorem FVr.noSh {E:Env} {sz:Nat}:∀ {rows:List (List AV)} {xs:List Value},Hu rows→FVr E sz rows xs→FVr E.noS sz rows xs
 |[],_,_,hx=>by simpa [FVr] using hx
 |r :: rs,xs,h,hx=>by
  simp only [FVr] at hx ⊢;obtain ⟨ys,zs,e,h0,h1,h2⟩:=hx;exact ⟨ys,zs,e,h0,FVc.noSh (h r (by simp)) h1,FVr.noSh (fun r' hr'=>h r' (by simp [hr'])) h2⟩
theorem SU (E:Env) (c:Bool):(E.by c).noS=E.noS.by c:=by cases c <;> rfl
mutual
def BA (σ:St):AV→Option AV
 |.als r lo n=>(Al σ.objs r).bind fun o=>bif o.cl then (if lo=0∧n=o.rows.length then some (.sh o.sz o.rows) else if lo+n≤o.rows.length then some (.sh o.sz ((o.rows.drop lo).take n)) else none) else none
 |.adr r i j=>(Al σ.objs r).bind fun o=>bif o.cl then (o.rows[i]?).map fun row=> .sadr row j else none
 |.agg cs=>(C7 σ cs).map .agg
 |.tup cs=>(C7 σ cs).map .tup
 |.fn f first caps=>match C7 σ first,C7 σ caps with
  |some x,some y=>some (.fn f x y)
  |_,_=>none
 |.top=>some .top
 |.lit v=>some (.lit v)
 |.sh s rows=>some (.sh s rows)
 |.sadr row j=>some (.sadr row j)
 |.hd r=>(Al σ.objs r).bind fun o=>bif o.slc && o.cl then some (.shm o.sz o.rows) else none
 |.shm s rows=>some (.shm s rows)
 |.rem s la rows=>some (.rem s la rows)
def C7 (σ:St):List AV→Option (List AV)
 |[]=>some []
 |c :: cs=>match BA σ c,C7 σ cs with
  |some x,some xs=>some (x :: xs)
  |_,_=>none
end
def Env.lent (E:Env):Env:={ E with D:=fun _=>False,S:=fun b=>b < E.w.heap.size }
theorem Rel.lent_le {C:Ctx} {E:Env} {X:Nat→List Value} {σ:St} {a:Act} (h:Rel C E X σ a):E.clear.le E.lent:=⟨fun b hb=>⟨(h.stay b hb).1,rfl⟩,fun _ hr=>hr.elim⟩
mutual
theorem FV.view {C:Ctx} {E:Env} {X:Nat→List Value} {σ:St} {a:Act} (h:Rel C E X σ a):∀ {v v':AV} {x:Value},BA σ v=some v'→FV E v x→FV E.lent v' x
 |.top,_,_,hv,_=>by simp only [BA,Option.some.injEq] at hv;subst hv;simp [FV]
 |.lit v,_,x,hv,hx=>by simp only [BA,Option.some.injEq] at hv;subst hv;simpa [FV] using hx
 |.sh s rows,_,x,hv,hx=>by
  simp only [BA,Option.some.injEq] at hv;subst hv;exact FV.le _ h.lent_le _ (FV.closed (v:= .sh s rows) rfl hx)
 |.sadr row j,_,x,hv,hx=>by
  simp only [BA,Option.some.injEq] at hv;subst hv;exact FV.le _ h.lent_le _ (FV.closed (v:= .sadr row j) rfl hx)
 |.shm s rows,_,x,hv,hx=>by
  simp only [BA,Option.some.injEq] at hv;subst hv;exact FV.le _ h.lent_le _ (FV.closed (v:= .shm s rows) rfl hx)
 |.rem s la rows,_,x,hv,hx=>by
  simp only [BA,Option.some.injEq] at hv;subst hv;exact FV.le _ h.lent_le _ (FV.closed (v:= .rem s la rows) rfl hx)
 |.hd r,v',x,hv,hx=>by
  simp only [BA,Option.bind_eq_some_iff] at hv;obtain ⟨o,ho,hv⟩:=hv;obtain ⟨_,hZ,hok,hr⟩:=h.objs r o ho
  cases hc:(o.slc && o.cl) with
  |false=>simp [hc] at hv
  |true =>
   simp only [hc,cond_true,Option.some.injEq] at hv;subst hv;simp only [Bool.and_eq_true] at hc;rw [hc.2] at hr;obtain ⟨b,es,clk,hH,hg,hwf,hfl,rfl⟩:=hok.asMap hc.1 hx;simp only [FV];refine .inr ⟨b,es,clk,rfl,hok.lt (b:=b) (by rw [hH];rfl),hg,hwf,?_⟩;rw [hfl];exact FVr.le _ _ h.lent_le.clear _ hr
 |.als r lo n,v',x,hv,hx=>by
  simp only [BA,Option.bind_eq_some_iff] at hv;obtain ⟨o,ho,hv⟩:=hv;obtain ⟨_,hZ,hok,hr⟩:=h.objs r o ho
  cases hc:o.cl with
  |false=>simp [hc] at hv
  |true =>
   simp only [hc,cond_true] at hv;rw [hc] at hr;simp only [FV] at hx;obtain ⟨_,A0,n0,c0,A,c,hH,rfl,hnc,_,hA⟩:=hx
   have key:lo+n≤o.rows.length→FV E.lent (.sh o.sz ((o.rows.drop lo).take n)) (.slice A n c):=by
    intro hle
    have hlen:((o.rows.drop lo).take n).length=n:=by simp;omega
    simp only [FV];refine ⟨A,c,((X r).drop (lo * o.sz)).take (n * o.sz),by rw [hlen],by rw [hlen];exact hnc,?_,fun hne=>?_⟩
    ·exact FVr.le _ _ h.lent_le.clear _ ((hr.drop lo).take n)
    ·have hpos:0 < n:=by
      rcases Nat.eq_zero_or_pos n with h0 | h0
      ·rw [h0] at hne;simp at hne
      ·exact h0
     obtain ⟨a0,rfl,hs,rfl⟩:=hA hpos;obtain ⟨_,hh⟩:=hok.holds (a0:=a0) (by rw [hH];rfl);refine ⟨_,rfl,Dp _ hs _,?_,?_⟩
     ·rw [Dm];exact hok.lt (b:=a0.block) (by rw [hH];rfl)
     ·rw [hZ];exact (hh.drop hs _).take _
   split at hv
   ·rename_i hw
    simp only [Option.some.injEq] at hv;subst hv;have:=key (by omega);rw [hw.1,hw.2,List.drop_zero,List.take_length] at this;rw [hw.2];exact this
   ·split at hv
    ·rename_i hle
     simp only [Option.some.injEq] at hv;subst hv;exact key hle
    ·cases hv
 |.adr r i j,v',x,hv,hx=>by
  simp only [BA,Option.bind_eq_some_iff] at hv;obtain ⟨o,ho,hv⟩:=hv;obtain ⟨_,hZ,hok,hr⟩:=h.objs r o ho
  cases hc:o.cl with
  |false=>simp [hc] at hv
  |true =>
   simp only [hc,cond_true,Option.map_eq_some_iff] at hv;obtain ⟨row,hrow,rfl⟩:=hv;rw [hc] at hr;simp only [FV] at hx ⊢;obtain ⟨_,a0,hb,hs,rfl⟩:=hx;obtain ⟨_,hh⟩:=hok.holds hb;refine ⟨a0.add (i * o.sz),((X r).drop (i * o.sz)).take o.sz,by rw [Fa a0 hs,hZ],Dp _ hs _,?_,?_,(hh.drop hs _).take _⟩
   ·rw [Dm];exact hok.lt (b:=a0.block) (DA hb)
   ·exact FVc.le _ h.lent_le.clear _ (hr.get hrow).2
 |.agg cs,_,x,hv,hx=>by
  simp only [BA,Option.map_eq_some_iff] at hv;obtain ⟨cs',hr,rfl⟩:=hv;simp only [FV] at hx ⊢;obtain ⟨xs,e,hc⟩:=hx;exact ⟨xs,e,FVc.view h hr hc⟩
 |.tup cs,_,x,hv,hx=>by
  simp only [BA,Option.map_eq_some_iff] at hv;obtain ⟨cs',hr,rfl⟩:=hv;simp only [FV] at hx ⊢;obtain ⟨xs,e,hc⟩:=hx;exact ⟨xs,e,FVs.view h hr hc⟩
 |.fn f first caps,v',x,hv,hx=>by
  simp only [BA] at hv
  split at hv
  ·rename_i y z h1 h2
   simp only [Option.some.injEq] at hv;subst hv;simp only [FV] at hx ⊢;obtain ⟨xs,ys,e,g1,g2⟩:=hx;exact ⟨xs,ys,e,FVs.view h h1 g1,FVs.view h h2 g2⟩
  ·cases hv
theorem FVc.view {C:Ctx} {E:Env} {X:Nat→List Value} {σ:St} {a:Act} (h:Rel C E X σ a):∀ {cs cs':List AV} {xs:List Value},C7 σ cs=some cs'→FVc E cs xs→FVc E.lent cs' xs
 |[],_,_,hv,hx=>by simp only [C7,Option.some.injEq] at hv;subst hv;simpa [FVc] using hx
 |c :: cs,cs',xs,hv,hx=>by
  simp only [C7] at hv
  split at hv
  ·rename_i y ys h1 h2
   simp only [Option.some.injEq] at hv;subst hv;simp only [FVc] at hx ⊢;obtain ⟨z,zs,e,h0,g1,g2⟩:=hx;exact ⟨z,zs,e,h0,FV.view h h1 g1,FVc.view h h2 g2⟩
  ·cases hv
theorem FVs.view {C:Ctx} {E:Env} {X:Nat→List Value} {σ:St} {a:Act} (h:Rel C E X σ a):∀ {cs cs':List AV} {xs:List Value},C7 σ cs=some cs'→FVs E cs xs→FVs E.lent cs' xs
 |[],_,_,hv,hx=>by simp only [C7,Option.some.injEq] at hv;subst hv;simpa [FVs] using hx
 |c :: cs,cs',xs,hv,hx=>by
  simp only [C7] at hv
  split at hv
  ·rename_i y ys h1 h2
   simp only [Option.some.injEq] at hv;subst hv;simp only [FVs] at hx ⊢;obtain ⟨z,zs,e,g1,g2⟩:=hx;exact ⟨z,zs,e,FV.view h h1 g1,FVs.view h h2 g2⟩
  ·cases hv
end
def Di (N:Nat):List (Nat × Obj)→Option (List (Nat × Obj))
 |[]=>some []
 |p :: l=>match Cz (fun r=>some (r+N)) p.2,Di N l with
  |some o',some l'=>some ((p.1+N,o') :: l')
  |_,_=>none
def Fl (N:Nat) (v:AV):Option AV:=BX (fun r=>some (r+N)) v
theorem Hf {N:Nat}:∀ {l l':List (Nat × Obj)},Di N l=some l'→∀ r o',Al l' r=some o'→∃ o,N≤r∧Al l (r - N)=some o∧Cz (fun r=>some (r+N)) o=some o'
 |[],l',h,r,o',hf=>by simp only [Di,Option.some.injEq] at h;subst h;simp [Al] at hf
 |(k,o) :: l,l',h,r,o',hf=>by
  simp only [Di] at h
  split at h
  ·rename_i o1 l1 h1 h2
   simp only [Option.some.injEq] at h;subst h;rw [A8] at hf
   split at hf
   ·rename_i e
    simp only [Option.some.injEq] at hf;subst hf;exact ⟨o,by omega,by rw [A8,if_pos (by omega)],h1⟩
   ·rename_i e
    obtain ⟨o2,g1,g2,g3⟩:=Hf h2 r o' hf;exact ⟨o2,g1,by rw [A8,if_neg (by omega)];exact g2,g3⟩
  ·cases h
theorem HS {N:Nat}:∀ {l l':List (Nat × Obj)},Di N l=some l'→∀ r o,Al l r=some o→∃ o',Al l' (r+N)=some o'
 |[],l',h,r,o,hf=>by simp [Al] at hf
 |(k,o1) :: l,l',h,r,o,hf=>by
  simp only [Di] at h
  split at h
  ·rename_i o2 l1 h1 h2
   simp only [Option.some.injEq] at h;subst h;rw [A8] at hf;rw [A8]
   split at hf
   ·rename_i e
    rw [if_pos (by omega)];exact ⟨_,rfl⟩
   ·rename_i e
    rw [if_neg (by omega)];exact HS h2 r o hf
  ·cases h
open Classical in
theorem LocalPost.lift {E Ec:Env} {v v':AV} {objs new:List (Nat × Obj)} {y:Value} {E':Env} {X':Nat→List Value} {N:Nat} (hw:Ec.w=E.w) (hSz:∀ b,E.S b→b < E.w.heap.size) (h:LocalPost Ec.clear v objs y E' X')
 (hv:Fl N v=some v') (hn:Di N objs=some new) (hf:∀ r o,Al new r=some o→¬ E.D r) (hEc:∀ b,E.S b→Ec.S b)
 (hSz':∀ {b},Ec.S b→b < E.w.heap.size)
 (hm:(∀ b,Ec.S b→E.S b)∨(noShAV v=true∧∀ r o,Al objs r=some o→Hu o.rows)) :
 ∃ E'' X'',E''.w=E'.w∧LocalPost E v' new y E'' X'':=by
 have hdom:∀ r,E'.D r→∃ o,Al objs r=some o:=fun r hr=>(h.dom r hr).resolve_left (fun h=>h)
 have hnewD:∀ r,E'.D r→¬ E.D (r+N):=by
  intro r hr;obtain ⟨o,ho⟩:=hdom r hr;obtain ⟨o',ho'⟩:=HS hn r o ho;exact hf _ o' ho'
 have hk:∀ b,b < E.w.heap.size→E'.w.heap[b]?= E.w.heap[b]?:=by
  intro b hb;have:=h.keep.block b (by simpa [Env.clear,hw] using hb) (fun h=>h)
  simpa [Env.clear,hw] using this
 let E'':Env:=⟨E'.w,fun r=>if E.D r then E.H r else E'.H (r - N),fun r=>if E.D r then E.Z r else E'.Z (r - N),fun r=>E.D r∨(N≤r∧E'.D (r - N)∧¬ E.D r),fun b=>E'.S b∧(E.S b∨E.w.heap.size≤b)⟩
 have hroot:∀ r,E'.D r→E''.D (r+N)∧E''.H (r+N)=E'.H r∧E''.Z (r+N)=E'.Z r:=by
  intro r hr;have hnd:=hnewD r hr
  refine ⟨.inr ⟨by omega,by rw [Nat.add_sub_cancel];exact hr,hnd⟩,?_,?_⟩ <;> simp [E'',hnd]
 have hval:∀ (u u':AV) (x:Value),(noShAV u=true∨∀ b,Ec.S b→E.S b)→BX (fun r=>some (r+N)) u=some u'→FV E' u x→FV E'' u' x:=by
  intro u u' x hor hr hx
  rcases hor with hor | hor
  ·refine FV.ren (ρ:=fun r=>some (r+N)) (E:=E'.noS) (E':=E'') ⟨fun b hb=>hb.elim,fun r r' hD e=>?_⟩ hr (FV.noSh hor hx);simp only [Option.some.injEq] at e;subst e;exact hroot r hD
  refine FV.ren (ρ:=fun r=>some (r+N)) (E:=E') (E':=E'') ⟨fun b hb=>⟨⟨hb,?_⟩,rfl⟩,fun r r' hD e=>?_⟩ hr hx
  ·rcases h.stay b hb with h1 | ⟨h1,_⟩
   ·exact .inl (hor b h1)
   exact .inr (by simpa [Env.clear,hw] using h1)
  simp only [Option.some.injEq] at e;subst e;exact hroot r hD
 have hobj:∀ (o o':Obj) (xs:List Value),(Hu o.rows∨∀ b,Ec.S b→E.S b)→Cz (fun r=>some (r+N)) o=some o'→FVr (E'.by o.cl) o.sz o.rows xs→FVr (E''.by o'.cl) o'.sz o'.rows xs:=by
  intro o o' xs hor hr hx
  rcases hor with hor | hor
  ·have h1:=FVr.noSh hor hx;rw [SU] at h1;refine FVr.renObj (E:=E'.noS) (E':=E'') hr ⟨fun b hb=>hb.elim,fun r r' hD e=>?_⟩ h1;simp only [Option.some.injEq] at e;subst e;exact hroot r hD
  refine FVr.renObj (E:=E') (E':=E'') hr ⟨fun b hb=>⟨⟨hb,?_⟩,rfl⟩,fun r r' hD e=>?_⟩ hx
  ·rcases h.stay b hb with h1 | ⟨h1,_⟩
   ·exact .inl (hor b h1)
   exact .inr (by simpa [Env.clear,hw] using h1)
  simp only [Option.some.injEq] at e;subst e;exact hroot r hD
 have hHn:∀ r o',Al new r=some o'→∃ o,N≤r∧Al objs (r - N)=some o∧Cz (fun r=>some (r+N)) o=some o'∧E''.H r=E'.H (r - N)∧E''.Z r=E'.Z (r - N):=by
  intro r o' hr;obtain ⟨o,h1,h2,h3⟩:=Hf hn r o' hr;have:=hf r o' hr;exact ⟨o,h1,h2,h3,by simp [E'',this],by simp [E'',this]⟩
 refine ⟨E'',fun r=>X' (r - N),rfl,⟨?_,?_,?_,?_,?_,?_,?_⟩⟩
 ·exact ⟨by have:=h.keep.os;simpa [Env.clear,hw] using this,by have:=h.keep.tape;simpa [Env.clear,hw] using this,by have:=h.keep.output;simpa [Env.clear,hw] using this,
   by have:=h.keep.size;simpa [Env.clear,hw] using this,fun b hb _=>hk b hb⟩
 ·refine ⟨fun b hb=>⟨⟨(h.le.stay b (hEc b hb)).1, .inl hb⟩,hk b (hSz b hb)⟩,fun r hD=>⟨.inl hD,by simp [E'',hD],by simp [E'',hD]⟩⟩
 ·rintro r (hD | ⟨h1,h2,h3⟩)
  ·exact .inl hD
  obtain ⟨o,ho⟩:=hdom _ h2;obtain ⟨o',ho'⟩:=HS hn _ o ho;rw [Nat.sub_add_cancel h1] at ho';exact .inr ⟨o',ho'⟩
 ·rintro b ⟨h1,h2⟩
  rcases h2 with h2 | h2
  ·exact .inl h2
  refine .inr ⟨h2,?_,fun r o' hr e=>?_⟩
  ·rcases h.stay b h1 with g | ⟨_,g,_⟩
   ·have:=(h.le.stay b g)
    rcases Nat.lt_or_ge b E'.w.heap.size with hlt | hge
    ·exact hlt
    exfalso
    have hs:=h.keep.size;simp only [Env.clear,hw] at hs;have:=hSz' g;omega
   exact g
  obtain ⟨o,g1,g2,_,g4,_⟩:=hHn r o' hr;rw [g4] at e
  rcases h.stay b h1 with g | ⟨_,_,g⟩
  ·have:=hSz' g;omega
  exact g _ o g2 e
 ·intro r o' hr;obtain ⟨o,g1,g2,g3,g4,g5⟩:=hHn r o' hr;obtain ⟨k1,_,k3,k4,k5,k6⟩:=h.objs _ o g2;have hsp:=CS g3;refine ⟨.inr ⟨g1,k1,hf r o' hr⟩,hf r o' hr,by rw [g5,k3,hsp.2.2.1],by rw [g4];exact k4.ren g3,?_,?_⟩
  ·refine hobj o o' _ ?_ g3 k5
   rcases hm with hm | hm
   ·exact .inr hm
   exact .inl (hm.2 _ o g2)
  intro b hb;rw [g4] at hb;have:=k6 b hb
  simpa [Env.clear,hw] using this
 ·intro r r' o1 o2 b hr hr' hb hb';obtain ⟨o,g1,g2,g3,g4,g5⟩:=hHn r o1 hr;obtain ⟨o',g1',g2',g3',g4',g5'⟩:=hHn r' o2 hr';rw [g4] at hb;rw [g4'] at hb';have:=h.apart _ _ o o' b g2 g2' hb hb';omega
 refine hval v v' y ?_ hv h.val
 rcases hm with hm | hm
 ·exact .inr hm
 exact .inl hm.1
mutual
theorem NO (σ:St):∀ (u u':AV),closedAV u=true→BA σ u=some u'→u'=u
 |.als _ _ _,_,h,_=>by simp [closedAV] at h
 |.adr _ _ _,_,h,_=>by simp [closedAV] at h
 |.top,_,_,h=>by simp only [BA,Option.some.injEq] at h;exact h.symm
 |.lit _,_,_,h=>by simp only [BA,Option.some.injEq] at h;exact h.symm
 |.sh _ _,_,_,h=>by simp only [BA,Option.some.injEq] at h;exact h.symm
 |.sadr _ _,_,_,h=>by simp only [BA,Option.some.injEq] at h;exact h.symm
 |.shm _ _,_,_,h=>by simp only [BA,Option.some.injEq] at h;exact h.symm
 |.rem _ _ _,_,_,h=>by simp only [BA,Option.some.injEq] at h;exact h.symm
 |.hd _,_,h,_=>by simp [closedAV] at h
 |.agg cs,u',hc,h=>by
  simp only [closedAV] at hc;simp only [BA,Option.map_eq_some_iff] at h;obtain ⟨cs',h1,rfl⟩:=h;rw [Ey σ cs cs' hc h1]
 |.tup cs,u',hc,h=>by
  simp only [closedAV] at hc;simp only [BA,Option.map_eq_some_iff] at h;obtain ⟨cs',h1,rfl⟩:=h;rw [Ey σ cs cs' hc h1]
 |.fn f first caps,u',hc,h=>by
  simp only [closedAV,Bool.and_eq_true] at hc;simp only [BA] at h
  split at h
  ·rename_i y z h1 h2
   simp only [Option.some.injEq] at h;subst h;rw [Ey σ first y hc.1 h1,Ey σ caps z hc.2 h2]
  ·cases h
theorem Ey (σ:St):∀ (l l':List AV),closedL l=true→C7 σ l=some l'→l'=l
 |[],_,_,h=>by simp only [C7,Option.some.injEq] at h;exact h.symm
 |c :: cs,l',hc,h=>by
  simp only [closedL,Bool.and_eq_true] at hc;simp only [C7] at h
  split at h
  ·rename_i u us g1 g2
   simp only [Option.some.injEq] at h;subst h;rw [NO σ c u hc.1 g1,Ey σ cs us hc.2 g2]
  ·cases h
end
def calleeOf:AV→Option (FuncId × List AV × List AV)
 |.fn (.func g) first caps=>some (g,first,caps)
 |_=>none
theorem J1 {E:Env} {v:AV} {x:Value} {g:FuncId} {first caps:List AV} (h:calleeOf v=some (g,first,caps)) (hx:FV E v x):∃ xs ys,x= .func (.func g) xs ys∧FVs E first xs.toList∧FVs E caps ys.toList:=by
 unfold calleeOf at h
 split at h
 ·simp only [Option.some.injEq,Prod.mk.injEq] at h;obtain ⟨rfl,rfl,rfl⟩:=h
  simpa [FV] using hx
 cases h
theorem Iz {P:Program} {g:FuncId} (hb:EG P g) (xs:Array Value) (w:World):(callFunc g xs).run P w= .ok (.enter g xs) w:=by
 obtain ⟨fn,hf,h1,h2⟩:=hb
 have h1':fn.body≠none:=by intro e;simp [e] at h1
 have h2':fn.name≠ "runtime.NumGoroutine":=by simpa using h2
 simp [callFunc,hf,h1',h2']
theorem On {P:Program} {σ:St} {o:Oper} {x:Operand} {as:Array Operand} {ts:Array TypeId} {g:FuncId} {first caps:List AV} {vs:List AV} {Post:AV→List (Nat × Obj)→Prop} {N:Nat}
 (ho:o.op= .call { callee:= .value x,args:=as,argTypes:=ts }) (hc:calleeOf (σ.ev x)=some (g,first,caps)) (hv:C7 σ (first ++ (as.toList.map σ.ev ++ caps))=some vs) (hF:Fun P g vs Post)
 (hm:closedL (first ++ (as.toList.map σ.ev ++ caps))=true∨∀ v objs,Post v objs→noShAV v=true∧∀ r ob,Al objs r=some ob→Hu ob.rows)
 (hl:∀ v objs,Post v objs→∃ v' new,Fl N v=some v'∧Di N objs=some new)
 {C:Ctx} {E:Env} {X:Nat→List Value} {a:Act} (hr:Rel C E X σ a) (hN:∀ v objs new,Post v objs→Di N objs=some new→∀ r ob,Al new r=some ob→¬ E.D r) {K:Act→World→Prop} {Q:Exit→Act→World→Prop}
 (hk:∀ v objs v' new y E' X',Post v objs→Fl N v=some v'→Di N objs=some new→LocalPost E v' new y E' X'→K (a.put o.dst y) E'.w):o.wp P a E.w K Q:=by
 obtain ⟨xs,ys,hx,h1,h2⟩:=J1 hc (hr.ev x);have hargs:FVs E (first ++ (as.toList.map σ.ev ++ caps)) (xs.toList ++ (as.toList.map a.eval ++ ys.toList)):=h1.append ((hr.evs _).append h2)
 have hrun:(execOp a.eval o).run P E.w= .ok (.enter g (xs.toList ++ (as.toList.map a.eval ++ ys.toList)).toArray) E.w:=by
  unfold execOp
  simp only [ho,resolve,Deferred.ofValue,hx,Sem.run_bind,Sem.run_pure,Result.andThen_ok,invoke];rw [Iz hF.1]
  congr 2
  apply Array.ext'
  simp
 unfold Oper.wp
 rw [hrun];simp only [Oper.upon];have hSz:∀ b,E.S b→b < E.w.heap.size:=fun b hb=>(hr.stay b hb).1
 by_cases hcl:closedL (first ++ (as.toList.map σ.ev ++ caps))=true
 ·have hvs:=Ey σ _ _ hcl hv;refine (hF.2 E _ (by rw [hvs];exact FVs.closed hcl hargs) hSz hr.glob).mono ?_;rintro e w' ⟨y,v,objs,E',X',rfl,rfl,hP,hLP⟩;obtain ⟨v',new,hv',hn'⟩:=hl v objs hP;obtain ⟨E'',X'',he,hLP'⟩:=hLP.lift (E:=E) rfl hSz hv' hn' (hN v objs new hP hn') (fun b hb=>hb) (fun {b} hb=>hSz b hb) (.inl fun b hb=>hb);rw [← he];exact hk v objs v' new y E'' X'' hP hv' hn' hLP'
 have hm':=hm.resolve_left hcl;refine (hF.2 E.lent _ (FVs.view hr hv hargs) (fun b hb=>hb) (hr.glob.sup hSz)).mono ?_;rintro e w' ⟨y,v,objs,E',X',rfl,rfl,hP,hLP⟩;obtain ⟨v',new,hv',hn'⟩:=hl v objs hP;obtain ⟨E'',X'',he,hLP'⟩:=hLP.lift (E:=E) (Ec:=E.lent) rfl hSz hv' hn' (hN v objs new hP hn') (fun b hb=>hSz b hb) (fun {b} hb=>hb) (.inr (hm' v objs hP));rw [← he];exact hk v objs v' new y E'' X'' hP hv' hn' hLP'
theorem SeqL.call {P:Program} {ops:Array Oper} {o:Oper} {rest:List Oper} {σ:St} {Q:St→Prop} {x:Operand} {as:Array Operand} {ts:Array TypeId} {g:FuncId} {first caps:List AV} {vs:List AV} {Post:AV→List (Nat × Obj)→Prop}
 (hg:AL (AU ops) σ o.guard=some true) (ho:o.op= .call { callee:= .value x,args:=as,argTypes:=ts }) (hc:calleeOf (σ.ev x)=some (g,first,caps)) (hv:C7 σ (first ++ (as.toList.map σ.ev ++ caps))=some vs) (hF:Fun P g vs Post)
 (hm:closedL (first ++ (as.toList.map σ.ev ++ caps))=true∨∀ v objs,Post v objs→noShAV v=true∧∀ r ob,Al objs r=some ob→Hu ob.rows)
 (hd:∀ d,o.dst=some d→d < σ.nt)
 (h:∀ v objs,Post v objs→∃ v' new n',Fl σ.next v=some v'∧Di σ.next objs=some new∧(∀ r ob,Al new r=some ob→r < n')∧σ.next≤n'∧SeqL P ops rest (σ.ext o.dst v' new n') Q):SeqL P ops (o :: rest) σ Q:=by
 intro C E X a hr Q' hq;simp only [CW,hr.guard hg,if_true];refine On (N:=σ.next) ho hc hv hF hm (fun v objs hP=>?_) hr (fun v objs new hP hn r ob hf hD=>?_) (fun v objs v' new y E' X' hP hv' hn' hLP=>?_)
 ·obtain ⟨v',new,n',h1,h2,_⟩:=h v objs hP;exact ⟨v',new,h1,h2⟩
 ·obtain ⟨_,h1,_⟩:=Hf hn r ob hf;have:=hr.fresh r hD;omega
 obtain ⟨v1,new1,n',h1,h2,h3,h4,h5⟩:=h v objs hP;rw [hv'] at h1;rw [hn'] at h2;simp only [Option.some.injEq] at h1 h2;subst h1 h2;obtain ⟨X'',hr'⟩:=hr.ext hLP o.dst n' hd h3 h4;exact h5 C E' X'' _ hr' Q' hq
theorem Local.call {P:Program} {σ:St} {o:Oper} {x:Operand} {as:Array Operand} {ts:Array TypeId} {g:FuncId} {first caps:List AV} {vs:List AV} {N:Nat} {v v':AV} {objs new:List (Nat × Obj)}
 (ho:o.op= .call { callee:= .value x,args:=as,argTypes:=ts }) (hc:calleeOf (σ.ev x)=some (g,first,caps)) (hv:C7 σ (first ++ (as.toList.map σ.ev ++ caps))=some vs) (hF:Fun P g vs (AI v objs))
 (hm:closedL (first ++ (as.toList.map σ.ev ++ caps))=true∨(noShAV v=true∧∀ r ob,Al objs r=some ob→Hu ob.rows))
 (hl1:Fl N v=some v') (hl2:Di N objs=some new):Local P σ o v' new:=by
 intro C E X a hr hf K Q hk;refine On (N:=N) ho hc hv hF ?_ (fun u l hP=>?_) hr (fun u l new' hP hn=>?_) (fun u l u' l' y E' X' hP h1 h2 hLP=>?_)
 ·rcases hm with hm | hm
  ·exact .inl hm
  refine .inr fun u l hP=>?_;obtain ⟨rfl,rfl⟩:=hP;exact hm
 ·obtain ⟨rfl,rfl⟩:=hP;exact ⟨v',new,hl1,hl2⟩
 ·obtain ⟨rfl,rfl⟩:=hP;rw [hl2] at hn;simp only [Option.some.injEq] at hn;subst hn;exact hf
 obtain ⟨rfl,rfl⟩:=hP;rw [hl1] at h1;rw [hl2] at h2;simp only [Option.some.injEq] at h1 h2;subst h1 h2;exact hk y E' X' hLP
theorem Wk.sub {σ σ':St} (hs:∀ s v,Al σ'.slots s=some v→Al σ.slots s=some v) (ho:∀ r o,Al σ'.objs r=some o→Al σ.objs r=some o) (hn:σ.next≤σ'.next) (ht:σ'.nt=σ.nt) (he:σ'.env=σ.env):Wk σ σ' :=
 fun C E X a h=>⟨E,X,rfl,⟨fun s v hv=>h.slots s v (hs s v hv),h.size.trans ht.symm,h.defers,fun r o hr=>h.objs r o (ho r o hr),fun r r' o o' b hr hr'=>h.apart r r' o o' b (ho r o hr) (ho r' o' hr'),
  fun b hb=>⟨(h.stay b hb).1,fun r o hr=>(h.stay b hb).2 r o (ho r o hr)⟩,fun r hr=>Nat.lt_of_lt_of_le (h.fresh r hr) hn,h.kept,fun r o b hr=>h.mine r o b (ho r o hr),h.env,h.envD,h.base,h.grow,h.envk.trans he.symm,h.glob⟩⟩
def Cv (ρ:Nat→Option Nat) (σ:St):List (Nat × AV)→Prop
 |[]=>True
 |p :: l=>BX ρ (σ.get p.1)=some p.2∧Cv ρ σ l
theorem FO {ρ:Nat→Option Nat} {σ:St}:∀ {l:List (Nat × AV)},Cv ρ σ l→∀ s v,Al l s=some v→BX ρ (σ.get s)=some v
 |[],_,s,v,hf=>by simp [Al] at hf
 |(k,u) :: l,h,s,v,hf=>by
  rw [A8] at hf
  split at hf
  ·rename_i e
   simp only [Option.some.injEq] at hf;subst e hf;exact h.1
  ·exact FO h.2 s v hf
theorem Wk.ren (ks:List Nat) {σ σ':St} (hnd:ks.Nodup) (hs:Cv (pos ks 0) σ σ'.slots) (ho:BG σ (pos ks 0) 0 ks=some σ'.objs) (hn:σ'.next=ks.length) (ht:σ'.nt=σ.nt) (he:σ'.env=σ.env)
 (hk:∀ i,i < σ.env→ks[i]?= some i):Wk σ σ':=by
 intro C E X a hr
 let E'':Env:={ w:=E.w,H:=fun r'=>match ks[r']? with | some k=>E.H k | none=>undef,Z:=fun r'=>match ks[r']? with | some k=>E.Z k | none=>0,D:=fun r'=>∃ k,ks[r']?= some k∧E.D k,S:=E.S }
 have hren:E.ren (pos ks 0) E'':=by
  refine ⟨fun b hb=>⟨hb,rfl⟩,fun r r' hD hp=>?_⟩;obtain ⟨_,h2⟩:=pos_spec ks 0 r r' hp;simp only [Nat.sub_zero] at h2;exact ⟨⟨r,h2,hD⟩,by simp [E'',h2],by simp [E'',h2]⟩
 refine ⟨E'',fun r'=>match ks[r']? with | some k=>X k | none=>[],rfl,⟨?_,hr.size.trans ht.symm,hr.defers,?_,?_,?_,?_,hr.kept,?_,?_,?_,hr.base,hr.grow,hr.envk.trans he.symm,hr.glob⟩⟩
 ·intro s v hv;exact FV.ren hren (FO hs s v hv) (hr.ev (.tmp s))
 ·intro r o hro;obtain ⟨k,o1,_,hkk,hk2,hk3⟩:=BB ks 0 _ ho r o hro;simp only [Nat.sub_zero] at hkk;obtain ⟨g1,g2,g3,g4⟩:=hr.objs k o1 hk2;have hsp:=CS hk3;refine ⟨⟨k,hkk,g1⟩,by simp [E'',hkk,g2,hsp.2.2.1],?_,?_⟩
  ·simp only [E'',hkk];exact g3.ren hk3
  simp only [hkk];exact FVr.renObj hk3 hren g4
 ·intro r r' o o' b hro hro' hb hb';obtain ⟨k,o1,_,hkk,hk2,hk3⟩:=BB ks 0 _ ho r o hro;obtain ⟨k',o1',_,hkk',hk2',hk3'⟩:=BB ks 0 _ ho r' o' hro';simp only [Nat.sub_zero] at hkk hkk';simp only [E'',hkk] at hb;simp only [E'',hkk'] at hb';have:=hr.apart k k' o1 o1' b hk2 hk2' hb hb';subst this;obtain ⟨hl,he⟩:=List.getElem?_eq_some_iff.1 hkk;obtain ⟨hl',he'⟩:=List.getElem?_eq_some_iff.1 hkk';exact (List.getElem_inj hnd).1 (he.trans he'.symm)
 ·intro b hb;obtain ⟨h1,h2⟩:=hr.stay b hb;refine ⟨h1,fun r o hro e=>?_⟩;obtain ⟨k,o1,_,hkk,hk2,hk3⟩:=BB ks 0 _ ho r o hro;simp only [Nat.sub_zero] at hkk;simp only [E'',hkk] at e;exact h2 k o1 hk2 e
 ·rintro r ⟨k,hkk,_⟩;rw [hn];exact (List.getElem?_eq_some_iff.1 hkk).1
 ·intro r o b hro hb;obtain ⟨k,o1,_,hkk,hk2,hk3⟩:=BB ks 0 _ ho r o hro;simp only [Nat.sub_zero] at hkk;simp only [E'',hkk] at hb;exact hr.mine k o1 b hk2 hb
 ·intro r hkr;have:=hk r (by rw [← hr.envk];exact hkr);simp only [E'',this];exact hr.env r hkr
 intro r hkr;exact ⟨r,hk r (by rw [← hr.envk];exact hkr),hr.envD r hkr⟩
theorem Wk.nil (s:Nat) (e:TypeId) (sz:Nat) {σ:St} (h:σ.get s= .lit (.slice none 0 0)) :
 Wk σ { σ with slots:=(s, .als σ.next 0 0) :: σ.slots,objs:=(σ.next,⟨true,e,sz,[],true⟩) :: σ.objs,next:=σ.next+1 }:=by
 intro C E X a hr
 let N:=σ.next
 have hN:¬ E.D N:=fun hD=>Nat.lt_irrefl _ (hr.fresh N hD);have hne:∀ r,E.D r→r≠N:=fun r hD e=>hN (e ▸ hD)
 let E':Env:={ w:=E.w,H:=BQ E.H N (.slice none 0 0),Z:=BQ E.Z N sz,D:=fun r=>E.D r∨r=N,S:=E.S }
 have hle:E.le E':=⟨fun b hb=>⟨hb,rfl⟩,fun r hD=>⟨.inl hD,by simp [E',BQ,hne r hD],by simp [E',BQ,hne r hD]⟩⟩
 have hcase:∀ r ob,Al ((σ.next,(⟨true,e,sz,[],true⟩:Obj)) :: σ.objs) r=some ob→(r=N∧ob=⟨true,e,sz,[],true⟩)∨(Al σ.objs r=some ob∧r≠N):=by
  intro r ob hf;rw [A8] at hf
  split at hf
  ·rename_i e
   simp only [Option.some.injEq] at hf;exact .inl ⟨e.symm,hf.symm⟩
  rename_i e
  exact .inr ⟨hf,fun e'=>e e'.symm⟩
 have hH:∀ r,r≠N→E'.H r=E.H r:=fun r h=>by simp [E',BQ,h]
 have hHN:E'.H N= .slice none 0 0:=by simp [E',BQ]
 have hblk:∀ r ob b,Al ((σ.next,(⟨true,e,sz,[],true⟩:Obj)) :: σ.objs) r=some ob→blockOf (E'.H r)=some b→Al σ.objs r=some ob∧blockOf (E.H r)=some b:=by
  intro r ob b hf hb
  rcases hcase r ob hf with ⟨rfl,_⟩ | ⟨hf,hne⟩
  ·rw [hHN] at hb;simp [blockOf,baseOf] at hb
  rw [hH r hne] at hb;exact ⟨hf,hb⟩
 refine ⟨E',BQ X N [],rfl,⟨?_,hr.size,hr.defers,?_,?_,?_,?_,hr.kept,?_,?_,?_,hr.base,hr.grow,hr.envk,hr.glob⟩⟩
 ·intro s' v hv;rw [A8] at hv
  split at hv
  ·rename_i e'
   simp only [Option.some.injEq] at hv;subst e' hv;have hx:=hr.ev (.tmp s);simp only [St.ev,h,FV,Act.eval] at hx;simp only [FV];refine ⟨.inr rfl,?_⟩;rw [hHN,hx];exact ⟨none,0,0,none,0,rfl,rfl,Nat.le_refl _,fun _=>⟨rfl,rfl⟩,fun h=>absurd h (by omega)⟩
  exact FV.le _ hle _ (hr.slots s' v hv)
 ·intro r ob hf
  rcases hcase r ob hf with ⟨rfl,rfl⟩ | ⟨hf,hne⟩
  ·refine ⟨.inr rfl,by simp [E',BQ],?_,by simp [BQ,FVr]⟩;rw [hHN];simp only [BQ,if_true];exact .inl ⟨rfl,rfl,rfl⟩
  obtain ⟨g1,g2,g3,g4⟩:=hr.objs r ob hf;rw [hH r hne];simp only [BQ,hne,if_false];exact ⟨.inl g1,by simp [E',BQ,hne,g2],g3,FVr.le _ _ (hle.by _) _ g4⟩
 ·intro r1 r2 o1 o2 b h1 h2 hb1 hb2;obtain ⟨g1,g2⟩:=hblk r1 o1 b h1 hb1;obtain ⟨g3,g4⟩:=hblk r2 o2 b h2 hb2;exact hr.apart r1 r2 o1 o2 b g1 g3 g2 g4
 ·intro b hb;refine ⟨(hr.stay b hb).1,fun r ob hf hbk=>?_⟩;obtain ⟨g1,g2⟩:=hblk r ob b hf hbk;exact (hr.stay b hb).2 r ob g1 g2
 ·rintro r (hD | rfl)
  ·have:=hr.fresh r hD;simp only;omega
  exact Nat.lt_succ_self _
 ·intro r ob b hf hbk;obtain ⟨g1,g2⟩:=hblk r ob b hf hbk;exact hr.mine r ob b g1 g2
 ·intro r hk;have hner:=hne r (hr.envD r hk);have:=hr.env r hk
  simpa [E',BQ,hner] using this
 intro r hk;exact .inl (hr.envD r hk)
theorem Wk.freeze (s:Nat) {σ:St} {r lo n:Nat} {o:Obj} (hs:σ.get s= .als r lo n) (ho:Al σ.objs r=some o) (hc:o.cl=true) (hle:lo+n≤o.rows.length) (hk:σ.env≤r) :
 Wk σ { σ with slots:=(s, .sh o.sz ((o.rows.drop lo).take n)) :: σ.slots,objs:=Ct σ.objs r }:=by
 intro C E X a hr;obtain ⟨g1,g2,g3,g4⟩:=hr.objs r o ho
 let E':Env:={ E with S:=fun b=>E.S b∨blockOf (E.H r)=some b }
 have hle':E.le E':=⟨fun b hb=>⟨.inl hb,rfl⟩,fun r hD=>⟨hD,rfl,rfl⟩⟩
 have hd:∀ r' o',Al (Ct σ.objs r) r'=some o'→Al σ.objs r'=some o'∧r'≠r:=by
  intro r' o' hf;rw [Cj] at hf
  split at hf
  ·cases hf
  rename_i e;exact ⟨hf,fun e'=>e e'.symm⟩
 refine ⟨E',X,rfl,⟨?_,hr.size,hr.defers,?_,?_,?_,hr.fresh,hr.kept,?_,?_,hr.envD,?_,?_,hr.envk,hr.glob.le hle'⟩⟩
 ·intro s' v hv;rw [A8] at hv
  split at hv
  ·rename_i e
   simp only [Option.some.injEq] at hv;subst e hv;have hx:=hr.ev (.tmp s);simp only [St.ev,hs,FV,Act.eval] at hx;obtain ⟨_,A0,n0,c0,A,c,hH,hxe,hnc,_,hA⟩:=hx
   have hlen:((o.rows.drop lo).take n).length=n:=by simp;omega
   rw [hc] at g4;simp only [FV];refine ⟨A,c,((X r).drop (lo * o.sz)).take (n * o.sz),by rw [hlen];exact hxe,by rw [hlen];exact hnc,FVr.le _ _ hle'.clear _ ((g4.drop lo).take n),fun hne=>?_⟩
   have hpos:0 < n:=by
    rcases Nat.eq_zero_or_pos n with h0 | h0
    ·rw [h0] at hne;simp at hne
    exact h0
   obtain ⟨a0,rfl,hsp,rfl⟩:=hA hpos;obtain ⟨_,hh⟩:=g3.holds (a0:=a0) (by rw [hH];rfl);refine ⟨_,rfl,Dp _ hsp _,?_,?_⟩
   ·rw [Dm];exact .inr (by rw [hH];rfl)
   rw [g2];exact (hh.drop hsp _).take _
  exact FV.le _ hle' _ (hr.slots s' v hv)
 ·intro r' o' hf;obtain ⟨hf,hne⟩:=hd r' o' hf;obtain ⟨k1,k2,k3,k4⟩:=hr.objs r' o' hf;exact ⟨k1,k2,k3,FVr.le _ _ (hle'.by _) _ k4⟩
 ·intro r1 r2 o1 o2 b h1 h2 hb1 hb2;exact hr.apart r1 r2 o1 o2 b (hd r1 o1 h1).1 (hd r2 o2 h2).1 hb1 hb2
 ·rintro b (hb | hb)
  ·exact ⟨(hr.stay b hb).1,fun r' o' hf=>(hr.stay b hb).2 r' o' (hd r' o' hf).1⟩
  refine ⟨g3.lt hb,fun r' o' hf hbk=>?_⟩;obtain ⟨hf,hne⟩:=hd r' o' hf;exact hne (hr.apart r' r o' o b hf ho hbk hb)
 ·intro r' o' b hf hbk;exact hr.mine r' o' b (hd r' o' hf).1 hbk
 ·exact hr.env
 ·intro b hb;exact .inl (hr.base b hb)
 rintro b (hb | hb)
 ·exact hr.grow b hb
 rcases hr.mine r o b ho hb with h | h
 ·exact .inr (.inr h)
 exact .inr (.inl h)
structure Entry (E:Env) (X:Nat→List Value) (l:List (Nat × Obj)) (k:Nat):Prop where
 dom:∀ r,E.D r↔r < k
 objs:∀ r o,Al l r=some o→r < k∧E.Z r=o.sz∧ObjOK E.w (E.H r) (X r) o∧FVr (E.by o.cl) o.sz o.rows (X r)
 apart:∀ r r' o o' b,Al l r=some o→Al l r'=some o'→blockOf (E.H r)=some b→blockOf (E.H r')=some b→r=r'
 stay:∀ b,E.S b→b < E.w.heap.size∧∀ r o,Al l r=some o→blockOf (E.H r)≠some b
 glob:LaidOK E.w E.S
def El (E:Env) (objs:List (Nat × Obj)) (b:Nat):Prop:=∃ r o,Al objs r=some o∧blockOf (E.H r)=some b
def Fy (E:Env) (objs:List (Nat × Obj)) (k:Nat):Ctx:=⟨E.w,El E objs,E.H,k,E.S,E.Z,[]⟩
def FunR (P:Program) (f:FuncId) (args:List AV) (objs:List (Nat × Obj)) (k:Nat) (Post:AV→List (Nat × Obj)→Prop):Prop :=
 EG P f∧∀ (E:Env) (X:Nat→List Value) (xs:List Value),Entry E X objs k→FVs E args xs →
  Calls P f xs.toArray E.w (fun e w'=>∃ y v objs' E' X' n,e= .returned y∧E'.w=w'∧Post v objs'∧(∀ r,E'.D r→r < k∨∃ o,Al objs' r=some o) ∧
   Rel (Fy E objs k) E' X' ⟨[(0,v)],objs',n,1,k⟩ { tmps:= #[y],defers:=[] })
theorem FunR.mono {P:Program} {f:FuncId} {args:List AV} {objs:List (Nat × Obj)} {k:Nat} {Post Post':AV→List (Nat × Obj)→Prop} (h:FunR P f args objs k Post) (hp:∀ v l,Post v l→Post' v l):FunR P f args objs k Post' :=
 ⟨h.1,fun E X xs h1 h2=>(h.2 E X xs h1 h2).mono fun e w' ⟨y,v,l,E',X',n,g1,g2,g3,g4⟩=>⟨y,v,l,E',X',n,g1,g2,hp v l g3,g4⟩⟩
def Cu (σ:St) (ρ:Nat→Option Nat) (k:Nat):Nat→List Nat→Option (List (Nat × Obj))
 |_,[]=>some []
 |i,j :: ks=>match Al σ.objs j with
  |some o=>match Cz ρ o,Cu σ ρ k (i+1) ks with
   |some o',some l=>some ((i,o') :: l)
   |_,_=>none
  |none=>bif Nat.blt i k then Cu σ ρ k (i+1) ks else none
theorem CT {σ:St} {ρ:Nat→Option Nat} {k:Nat}:∀ (ks:List Nat) (i:Nat) (l:List (Nat × Obj)),Cu σ ρ k i ks=some l→∀ r o',Al l r=some o'→∃ j o,i≤r∧ks[r - i]?= some j∧Al σ.objs j=some o∧Cz ρ o=some o'
 |[],i,l,h,r,o',hf=>by simp only [Cu,Option.some.injEq] at h;subst h;simp [Al] at hf
 |j :: ks,i,l,h,r,o',hf=>by
  simp only [Cu] at h
  split at h
  ·rename_i o ho
   split at h
   ·rename_i o1 l1 h1 h2
    simp only [Option.some.injEq] at h;subst h;rw [A8] at hf
    split at hf
    ·rename_i e
     simp only [Option.some.injEq] at hf;subst e hf;exact ⟨j,o,Nat.le_refl _,by simp,ho,h1⟩
    ·obtain ⟨k',o,g1,g2,g3,g4⟩:=CT ks (i+1) l1 h2 r o' hf;refine ⟨k',o,by omega,?_,g3,g4⟩;rw [show r - i=(r - (i+1))+1 by omega]
     simpa using g2
   ·cases h
  ·cases hb:Nat.blt i k with
   |false=>simp [hb] at h
   |true =>
    simp only [hb,cond_true] at h;obtain ⟨k',o,g1,g2,g3,g4⟩:=CT ks (i+1) l h r o' hf;refine ⟨k',o,by omega,?_,g3,g4⟩;rw [show r - i=(r - (i+1))+1 by omega]
    simpa using g2
theorem JM {σ:St} {ρ:Nat→Option Nat} {k:Nat}:∀ (ks:List Nat) (i:Nat) (l:List (Nat × Obj)),Cu σ ρ k i ks=some l→∀ r,i≤r→r < i+ks.length→r < k∨∃ o',Al l r=some o'
 |[],i,l,h,r,h1,h2=>by simp at h2;omega
 |j :: ks,i,l,h,r,h1,h2=>by
  simp only [Cu] at h
  split at h
  ·split at h
   ·rename_i o1 l1 g1 g2
    simp only [Option.some.injEq] at h;subst h;rw [A8]
    split
    ·exact .inr ⟨_,rfl⟩
    ·exact JM ks (i+1) l1 g2 r (by omega) (by simp at h2;omega)
   ·cases h
  ·cases hb:Nat.blt i k with
   |false=>simp [hb] at h
   |true =>
    simp only [hb,cond_true] at h;have hik:i < k:=Nat.le_of_ble_eq_true hb
    by_cases e:r=i
    ·exact .inl (by omega)
    ·exact JM ks (i+1) l h r (by omega) (by simp at h2;omega)
def RJ (P:Program) (rs:List ResultVar) (ks:List Nat) (k:Nat) (Post:AV→List (Nat × Obj)→Prop) (σ:St):Prop :=
 match C2 P σ rs with
 |none=>False
 |some vs=>match BX (pos ks 0) (packAV vs),Cu σ (pos ks 0) k 0 ks with
  |some v,some objs=>Post v objs
  |_,_=>False
def F1 (k:Nat) (ks:List Nat):Prop:=∀ i,i < k→ks[i]?= some i
def F8 (P:Program) (rs:List ResultVar) (k:Nat) (Post:AV→List (Nat × Obj)→Prop):Exit→St→Prop
 |.normal,σ | .ret,σ=>∃ ks,ks.Nodup∧F1 k ks∧RJ P rs ks k Post σ
 |_,_=>False
theorem FunR.of_body {P:Program} {f:FuncId} {fn:Func} {c:Code} {args:List AV} {objs0:List (Nat × Obj)} {k:Nat} {Post:AV→List (Nat × Obj)→Prop} (hf:P.funcs[f]?= some fn) (hb:fn.body=some c) (hnm:(fn.name == "runtime.NumGoroutine")=false)
 (hn:args.length≤fn.ntmps) (h:Ev P c ⟨argSlots 0 args,objs0,k,fn.ntmps,k⟩ (F8 P fn.results.toList k Post)):FunR P f args objs0 k Post:=by
 refine ⟨⟨fn,hf,by simp [hb],hnm⟩,fun E X xs hE hx=>?_⟩;refine calls_of_wp hf hb ?_;have hxl:=hx.length
 have hrel:Rel (Fy E objs0 k) E X ⟨argSlots 0 args,objs0,k,fn.ntmps,k⟩ { tmps:=xs.toArray ++ Array.replicate (fn.ntmps - xs.toArray.size) undef,defers:=[] }:=by
  refine ⟨?_,?_,rfl,?_,hE.apart,hE.stay,?_,Keep.refl _ _,?_,?_,?_,fun b hb=>hb,fun b hb=> .inl hb,rfl,hE.glob⟩
  ·intro s v hv;obtain ⟨_,h2⟩:=find_argSlots args 0 s v hv;simp only [Nat.sub_zero] at h2;obtain ⟨y,hy,hfv⟩:=hx.get h2;have hlt:s < xs.length:=(List.getElem?_eq_some_iff.1 hy).1
   have:(xs.toArray ++ Array.replicate (fn.ntmps - xs.toArray.size) undef).getD s undef=y:=by
    have e:(xs.toArray ++ Array.replicate (fn.ntmps - xs.toArray.size) undef)[s]?= some y:=by
     rw [Array.getElem?_append_left (by simpa using hlt)]
     simpa using hy
    rw [Array.getD_eq_getD_getElem?,e];rfl
   rw [this];exact hfv
  ·simp [hxl];omega
  ·intro r o hr;obtain ⟨h1,h2⟩:=hE.objs r o hr;exact ⟨(hE.dom r).2 h1,h2⟩
  ·intro r hr;exact (hE.dom r).1 hr
  ·intro r o b hr hb;exact .inl ⟨r,o,hr,hb⟩
  ·intro r hr;exact ⟨rfl,rfl⟩
  intro r hr;exact (hE.dom r).2 hr
 have hend:∀ (E':Env) X' σ' a',Rel (Fy E objs0 k) E' X' σ' a'→∀ ks:List Nat,ks.Nodup→F1 k ks→RJ P fn.results.toList ks k Post σ' →
  ∃ y,(results fn a'.tmps).run P E'.w= .ok y E'.w∧∃ v objs E'' X'' n,E''.w=E'.w∧Post v objs∧(∀ r,E''.D r→r < k∨∃ o,Al objs r=some o) ∧
   Rel (Fy E objs0 k) E'' X'' ⟨[(0,v)],objs,n,1,k⟩ { tmps:= #[y],defers:=[] }:=by
  intro E' X' σ' a' hr ks hnd hld hret
  unfold RJ at hret
  split at hret
  ·exact hret.elim
  ·rename_i vs hvs
   split at hret
   ·rename_i v objs hv ho
    obtain ⟨y,hy1,hy2⟩:=hr.run_results hvs;refine ⟨y,hy1,v,objs,?_⟩
    let E'':Env:={ w:=E'.w,H:=fun r'=>match ks[r']? with | some k=>E'.H k | none=>undef,Z:=fun r'=>match ks[r']? with | some k=>E'.Z k | none=>0,D:=fun r'=>∃ k,ks[r']?= some k∧E'.D k,S:=E'.S }
    have hren:E'.ren (pos ks 0) E'':=by
     refine ⟨fun b hb=>⟨hb,rfl⟩,fun r r' hD hp=>?_⟩;obtain ⟨_,h2⟩:=pos_spec ks 0 r r' hp;simp only [Nat.sub_zero] at h2;exact ⟨⟨r,h2,hD⟩,by simp [E'',h2],by simp [E'',h2]⟩
    refine ⟨E'',fun r'=>match ks[r']? with | some k=>X' k | none=>[],ks.length,rfl,hret,?_,⟨?_,rfl,rfl,?_,?_,?_,?_,hr.kept,?_,?_,?_,hr.base,hr.grow,rfl,hr.glob⟩⟩
    ·rintro r ⟨j,hj,_⟩;have hlt:=(List.getElem?_eq_some_iff.1 hj).1;exact JM ks 0 objs ho r (Nat.zero_le _) (by omega)
    ·intro s u hu;rw [A8] at hu
     split at hu
     ·rename_i e
      simp only [Option.some.injEq] at hu;subst e hu;exact FV.ren hren hv hy2
     ·simp [Al] at hu
    ·intro r o hro;obtain ⟨j,o1,_,hk,hk2,hk3⟩:=CT ks 0 objs ho r o hro;simp only [Nat.sub_zero] at hk;obtain ⟨g1,g2,g3,g4⟩:=hr.objs j o1 hk2;have hsp:=CS hk3;refine ⟨⟨j,hk,g1⟩,by simp [E'',hk,g2,hsp.2.2.1],?_,?_⟩
     ·simp only [E'',hk];exact g3.ren hk3
     ·simp only [hk];exact FVr.renObj hk3 hren g4
    ·intro r r' o o' b hro hro' hb hb';obtain ⟨j,o1,_,hk,hk2,hk3⟩:=CT ks 0 objs ho r o hro;obtain ⟨j',o1',_,hk',hk2',hk3'⟩:=CT ks 0 objs ho r' o' hro';simp only [Nat.sub_zero] at hk hk';simp only [E'',hk] at hb;simp only [E'',hk'] at hb';have:=hr.apart j j' o1 o1' b hk2 hk2' hb hb';subst this;obtain ⟨hl,he⟩:=List.getElem?_eq_some_iff.1 hk;obtain ⟨hl',he'⟩:=List.getElem?_eq_some_iff.1 hk';exact (List.getElem_inj hnd).1 (he.trans he'.symm)
    ·intro b hb;obtain ⟨h1,h2⟩:=hr.stay b hb;refine ⟨h1,fun r o hro e=>?_⟩;obtain ⟨j,o1,_,hk,hk2,_⟩:=CT ks 0 objs ho r o hro;simp only [Nat.sub_zero] at hk;simp only [E'',hk] at e;exact h2 j o1 hk2 e
    ·rintro r ⟨j,hj,_⟩;exact (List.getElem?_eq_some_iff.1 hj).1
    ·intro r o b hro hb;obtain ⟨j,o1,_,hk,hk2,_⟩:=CT ks 0 objs ho r o hro;simp only [Nat.sub_zero] at hk;simp only [E'',hk] at hb;exact hr.mine j o1 b hk2 hb
    ·intro r hrk;have:=hld r hrk;simp only [E'',this];exact hr.env r hrk
    ·intro r hrk;exact ⟨r,hld r hrk,hr.envD r hrk⟩
   ·exact hret.elim
 refine wp_mono (h _ E X _ hrel) ?_;rintro e a' w' ⟨E',X',σ',rfl,hr,hq⟩
 cases e <;> simp only [F8] at hq
 case normal =>
  obtain ⟨ks,hnd,hld,hq⟩:=hq;obtain ⟨y,hy,v,objs,E'',X'',n,h1,h2,h3,h4⟩:=hend E' X' σ' a' hr ks hnd hld hq;exact ⟨hr.defers,y,hy,y,v,objs,E'',X'',n,rfl,h1,h2,h3,h4⟩
 case ret =>
  obtain ⟨ks,hnd,hld,hq⟩:=hq;obtain ⟨y,hy,v,objs,E'',X'',n,h1,h2,h3,h4⟩:=hend E' X' σ' a' hr ks hnd hld hq;exact ⟨hr.defers,y,hy,y,v,objs,E'',X'',n,rfl,h1,h2,h3,h4⟩
def FB {α:Type}:List Nat→List (Nat × α)→List (Nat × α)
 |[],l=>l
 |r :: rs,l=>FB rs (Ct l r)
theorem KB {α:Type}:∀ (rs:List Nat) (l:List (Nat × α)) (n:Nat) (o:α),Al (FB rs l) n=some o↔Al l n=some o∧n ∉ rs
 |[],l,n,o=>by simp [FB]
 |r :: rs,l,n,o=>by
  simp only [FB];rw [KB rs,Cj,List.mem_cons]
  by_cases h:r=n
  ·simp [h]
  ·have h':¬ n=r:=fun e=>h e.symm
   simp [h,h']
mutual
def DR (σ:St) (rs:List Nat):AV→Option AV
 |.als r lo n=>match pos rs 0 r with
  |some r'=>some (.als r' lo n)
  |none=>BA σ (.als r lo n)
 |.hd r=>match pos rs 0 r with
  |some r'=>some (.hd r')
  |none=>none
 |.shm s rows=>some (.shm s rows)
 |.rem s la rows=>some (.rem s la rows)
 |.adr r i j=>match pos rs 0 r with
  |some r'=>some (.adr r' i j)
  |none=>BA σ (.adr r i j)
 |.agg cs=>(EC σ rs cs).map .agg
 |.tup cs=>(EC σ rs cs).map .tup
 |.fn f first caps=>match EC σ rs first,EC σ rs caps with
  |some x,some y=>some (.fn f x y)
  |_,_=>none
 |.top=>some .top
 |.lit v=>some (.lit v)
 |.sh s rows=>some (.sh s rows)
 |.sadr row j=>some (.sadr row j)
def EC (σ:St) (rs:List Nat):List AV→Option (List AV)
 |[]=>some []
 |c :: cs=>match DR σ rs c,EC σ rs cs with
  |some x,some xs=>some (x :: xs)
  |_,_=>none
end
mutual
def GO (rs:List Nat):AV→Bool
 |.als r _ _=>(pos rs 0 r).isSome
 |.adr r _ _=>(pos rs 0 r).isSome
 |.hd r=>(pos rs 0 r).isSome
 |.shm _ _=>true
 |.rem _ _ _=>true
 |.agg cs=>ED rs cs
 |.tup cs=>ED rs cs
 |.fn _ first caps=>ED rs first && ED rs caps
 |.top=>true
 |.lit _=>true
 |.sh _ _=>true
 |.sadr _ _=>true
def ED (rs:List Nat):List AV→Bool
 |[]=>true
 |c :: cs=>GO rs c && ED rs cs
end
def Env.hand (E:Env) (σ:St) (rs:List Nat) (T:Bool):Env :=
 { w:=E.w,H:=fun r'=>match rs[r']? with | some k=>E.H k | none=>undef,Z:=fun r'=>match rs[r']? with | some k=>E.Z k | none=>0,D:=fun r'=>r' < rs.length,
   S:=fun b=>E.S b∨(T=false∧b < E.w.heap.size∧∀ r o,r ∈ rs→Al σ.objs r=some o→blockOf (E.H r)≠some b) }
section hand
variable {C:Ctx} {E:Env} {X:Nat→List Value} {σ:St} {a:Act}
theorem Rel.hand_clear (h:Rel C E X σ a) (rs:List Nat) (T:Bool):E.clear.le (E.hand σ rs T):=⟨fun b hb=>⟨.inl hb,rfl⟩,fun _ hr=>hr.elim⟩
theorem pos_none:∀ {ks:List Nat} {i r:Nat},pos ks i r=none→r ∉ ks
 |[],_,_,_=>by simp
 |k :: ks,i,r,h=>by
  simp only [pos] at h
  cases hb:Nat.beq k r with
  |true=>simp [hb] at h
  |false =>
   simp only [hb,cond_false] at h
   have hne:¬ r=k:=by
    intro e;subst e;rw [Nat.beq_refl] at hb
    cases hb
   have:=pos_none h
   simp [this,hne]
theorem FV.hand_root (h:Rel C E X σ a) {rs:List Nat} {T:Bool}:∀ {v v':AV} {x:Value},(∃ r lo n r',v= .als r lo n∧v'= .als r' lo n∧pos rs 0 r=some r')∨(∃ r i j r',v= .adr r i j∧v'= .adr r' i j∧pos rs 0 r=some r')∨(∃ r r',v= .hd r∧v'= .hd r'∧pos rs 0 r=some r') →
 FV E v x→FV (E.hand σ rs T) v' x:=by
 rintro v v' x (⟨r,lo,n,r',rfl,rfl,hp⟩ | ⟨r,i,j,r',rfl,rfl,hp⟩ | ⟨r,r',rfl,rfl,hp⟩) hx
 all_goals
  obtain ⟨_,h2⟩:=pos_spec rs 0 r r' hp;simp only [Nat.sub_zero] at h2;simp only [FV] at hx ⊢;refine ⟨(List.getElem?_eq_some_iff.1 h2).1,?_⟩;simp only [Env.hand,h2];exact hx.2
theorem FV.hand_view (h:Rel C E X σ a) {rs:List Nat}:∀ {v v':AV} {x:Value},(∀ r o b,r ∈ rs→Al σ.objs r=some o→blockOf (E.H r)=some b→∀ r1 o1,(∃ lo n,v= .als r1 lo n)∨(∃ i j,v= .adr r1 i j)→Al σ.objs r1=some o1→blockOf (E.H r1)≠some b) →
 ((∃ r lo n,v= .als r lo n)∨∃ r i j,v= .adr r i j)→BA σ v=some v'→FV E v x→FV (E.hand σ rs false) v' x:=by
 intro v v' x hap hv0 hv hx
 rcases hv0 with ⟨r,lo,n,rfl⟩ | ⟨r,i,j,rfl⟩
 ·have hv1:=hv;simp only [BA,Option.bind_eq_some_iff] at hv;obtain ⟨o,ho,hv⟩:=hv;obtain ⟨_,hZ,hok,hr⟩:=h.objs r o ho
  cases hc:o.cl with
  |false=>simp [hc] at hv
  |true =>
   simp only [hc,cond_true] at hv;rw [hc] at hr;simp only [FV] at hx;obtain ⟨_,A0,n0,c0,A,c,hH,rfl,hnc,_,hA⟩:=hx
   have key:lo+n≤o.rows.length→FV (E.hand σ rs false) (.sh o.sz ((o.rows.drop lo).take n)) (.slice A n c):=by
    intro hle
    have hlen:((o.rows.drop lo).take n).length=n:=by simp;omega
    simp only [FV];refine ⟨A,c,((X r).drop (lo * o.sz)).take (n * o.sz),by rw [hlen],by rw [hlen];exact hnc,?_,fun hne=>?_⟩
    ·exact FVr.le _ _ (h.hand_clear rs false).clear _ ((hr.drop lo).take n)
    have hpos:0 < n:=by
     rcases Nat.eq_zero_or_pos n with h0 | h0
     ·rw [h0] at hne;simp at hne
     exact h0
    obtain ⟨a0,rfl,hs,rfl⟩:=hA hpos;obtain ⟨_,hh⟩:=hok.holds (a0:=a0) (by rw [hH];rfl);refine ⟨_,rfl,Dp _ hs _,?_,?_⟩
    ·rw [Dm];refine .inr ⟨rfl,hok.lt (b:=a0.block) (by rw [hH];rfl),fun r2 o2 hm ho2 hb=>?_⟩;exact hap r2 o2 _ hm ho2 hb r o (.inl ⟨lo,n,rfl⟩) ho (by rw [hH];rfl)
    rw [hZ];exact (hh.drop hs _).take _
   split at hv
   ·rename_i hw
    simp only [Option.some.injEq] at hv;subst hv;have:=key (by omega);rw [hw.1,hw.2,List.drop_zero,List.take_length] at this;rw [hw.2];exact this
   split at hv
   ·rename_i hle
    simp only [Option.some.injEq] at hv;subst hv;exact key hle
   cases hv
 simp only [BA,Option.bind_eq_some_iff] at hv;obtain ⟨o,ho,hv⟩:=hv;obtain ⟨_,hZ,hok,hr⟩:=h.objs r o ho
 cases hc:o.cl with
 |false=>simp [hc] at hv
 |true =>
  simp only [hc,cond_true,Option.map_eq_some_iff] at hv;obtain ⟨row,hrow,rfl⟩:=hv;rw [hc] at hr;simp only [FV] at hx ⊢;obtain ⟨_,a0,hb,hs,rfl⟩:=hx;obtain ⟨_,hh⟩:=hok.holds hb;refine ⟨a0.add (i * o.sz),((X r).drop (i * o.sz)).take o.sz,by rw [Fa a0 hs,hZ],Dp _ hs _,?_,?_,(hh.drop hs _).take _⟩
  ·rw [Dm];refine .inr ⟨rfl,hok.lt (b:=a0.block) (DA hb),fun r2 o2 hm ho2 hbk=>?_⟩;exact hap r2 o2 _ hm ho2 hbk r o (.inr ⟨i,j,rfl⟩) ho (DA hb)
  exact FVc.le _ (h.hand_clear rs false).clear _ (hr.get hrow).2
theorem Rel.hand_apart (h:Rel C E X σ a) {rs:List Nat} {r1:Nat} (hn:r1 ∉ rs) {r b:Nat} {o o1:Obj} (hm:r ∈ rs) (ho:Al σ.objs r=some o) (hb:blockOf (E.H r)=some b) (ho1:Al σ.objs r1=some o1):blockOf (E.H r1)≠some b:=by
 intro e;have:=h.apart r r1 o o1 b ho ho1 hb e;subst this;exact hn hm
mutual
theorem FV.hand (h:Rel C E X σ a) {rs:List Nat} {T:Bool}:∀ {v v':AV} {x:Value},(T=true→GO rs v=true)→DR σ rs v=some v'→FV E v x→FV (E.hand σ rs T) v' x
 |.shm s rows,_,x,_,hv,hx=>by
  simp only [DR,Option.some.injEq] at hv;subst hv;exact FV.le _ (h.hand_clear rs T) _ (FV.closed (v:= .shm s rows) rfl hx)
 |.rem s la rows,_,x,_,hv,hx=>by
  simp only [DR,Option.some.injEq] at hv;subst hv;exact FV.le _ (h.hand_clear rs T) _ (FV.closed (v:= .rem s la rows) rfl hx)
 |.hd r,v',x,hT,hv,hx=>by
  simp only [DR] at hv
  split at hv
  ·rename_i r' hp
   simp only [Option.some.injEq] at hv;subst hv;exact FV.hand_root h (.inr (.inr ⟨r,r',rfl,rfl,hp⟩)) hx
  ·cases hv
 |.top,_,_,_,hv,_=>by simp only [DR,Option.some.injEq] at hv;subst hv;simp [FV]
 |.lit v,_,x,_,hv,hx=>by simp only [DR,Option.some.injEq] at hv;subst hv;simpa [FV] using hx
 |.sh s rows,_,x,_,hv,hx=>by
  simp only [DR,Option.some.injEq] at hv;subst hv;exact FV.le _ (h.hand_clear rs T) _ (FV.closed (v:= .sh s rows) rfl hx)
 |.sadr row j,_,x,_,hv,hx=>by
  simp only [DR,Option.some.injEq] at hv;subst hv;exact FV.le _ (h.hand_clear rs T) _ (FV.closed (v:= .sadr row j) rfl hx)
 |.als r lo n,v',x,hT,hv,hx=>by
  simp only [DR] at hv
  split at hv
  ·rename_i r' hp
   simp only [Option.some.injEq] at hv;subst hv;exact FV.hand_root h (.inl ⟨r,lo,n,r',rfl,rfl,hp⟩) hx
  ·rename_i hp
   cases T with
   |true=>have:=hT rfl;simp [GO,hp] at this
   |false =>
    refine FV.hand_view h (fun r2 o2 b hm ho hb r1 o1 hr1 ho1=>?_) (.inl ⟨r,lo,n,rfl⟩) hv hx
    rcases hr1 with ⟨_,_,e⟩ | ⟨_,_,e⟩
    ·simp only [AV.als.injEq] at e;obtain ⟨rfl,_⟩:=e;exact h.hand_apart (pos_none hp) hm ho hb ho1
    ·cases e
 |.adr r i j,v',x,hT,hv,hx=>by
  simp only [DR] at hv
  split at hv
  ·rename_i r' hp
   simp only [Option.some.injEq] at hv;subst hv;exact FV.hand_root h (.inr (.inl ⟨r,i,j,r',rfl,rfl,hp⟩)) hx
  ·rename_i hp
   cases T with
   |true=>have:=hT rfl;simp [GO,hp] at this
   |false =>
    refine FV.hand_view h (fun r2 o2 b hm ho hb r1 o1 hr1 ho1=>?_) (.inr ⟨r,i,j,rfl⟩) hv hx
    rcases hr1 with ⟨_,_,e⟩ | ⟨_,_,e⟩
    ·cases e
    ·simp only [AV.adr.injEq] at e;obtain ⟨rfl,_⟩:=e;exact h.hand_apart (pos_none hp) hm ho hb ho1
 |.agg cs,_,x,hT,hv,hx=>by
  simp only [DR,Option.map_eq_some_iff] at hv;obtain ⟨cs',hr,rfl⟩:=hv;simp only [FV] at hx ⊢;obtain ⟨xs,e,hc⟩:=hx;exact ⟨xs,e,FVc.hand h (fun t=>by simpa [GO] using hT t) hr hc⟩
 |.tup cs,_,x,hT,hv,hx=>by
  simp only [DR,Option.map_eq_some_iff] at hv;obtain ⟨cs',hr,rfl⟩:=hv;simp only [FV] at hx ⊢;obtain ⟨xs,e,hc⟩:=hx;exact ⟨xs,e,FVs.hand h (fun t=>by simpa [GO] using hT t) hr hc⟩
 |.fn f first caps,v',x,hT,hv,hx=>by
  simp only [DR] at hv
  split at hv
  ·rename_i y z h1 h2
   simp only [Option.some.injEq] at hv;subst hv;simp only [FV] at hx ⊢;obtain ⟨xs,ys,e,g1,g2⟩:=hx;exact ⟨xs,ys,e,FVs.hand h (fun t=>by have:=hT t;simp only [GO,Bool.and_eq_true] at this;exact this.1) h1 g1,FVs.hand h (fun t=>by have:=hT t;simp only [GO,Bool.and_eq_true] at this;exact this.2) h2 g2⟩
  ·cases hv
theorem FVc.hand (h:Rel C E X σ a) {rs:List Nat} {T:Bool}:∀ {cs cs':List AV} {xs:List Value},(T=true→ED rs cs=true)→EC σ rs cs=some cs'→FVc E cs xs→FVc (E.hand σ rs T) cs' xs
 |[],_,_,_,hv,hx=>by simp only [EC,Option.some.injEq] at hv;subst hv;simpa [FVc] using hx
 |c :: cs,cs',xs,hT,hv,hx=>by
  simp only [EC] at hv
  split at hv
  ·rename_i y ys h1 h2
   simp only [Option.some.injEq] at hv;subst hv;simp only [FVc] at hx ⊢;obtain ⟨z,zs,e,h0,g1,g2⟩:=hx;exact ⟨z,zs,e,h0,FV.hand h (fun t=>by have:=hT t;simp only [ED,Bool.and_eq_true] at this;exact this.1) h1 g1,FVc.hand h (fun t=>by have:=hT t;simp only [ED,Bool.and_eq_true] at this;exact this.2) h2 g2⟩
  ·cases hv
theorem FVs.hand (h:Rel C E X σ a) {rs:List Nat} {T:Bool}:∀ {cs cs':List AV} {xs:List Value},(T=true→ED rs cs=true)→EC σ rs cs=some cs'→FVs E cs xs→FVs (E.hand σ rs T) cs' xs
 |[],_,_,_,hv,hx=>by simp only [EC,Option.some.injEq] at hv;subst hv;simpa [FVs] using hx
 |c :: cs,cs',xs,hT,hv,hx=>by
  simp only [EC] at hv
  split at hv
  ·rename_i y ys h1 h2
   simp only [Option.some.injEq] at hv;subst hv;simp only [FVs] at hx ⊢;obtain ⟨z,zs,e,g1,g2⟩:=hx;exact ⟨z,zs,e,FV.hand h (fun t=>by have:=hT t;simp only [ED,Bool.and_eq_true] at this;exact this.1) h1 g1,FVs.hand h (fun t=>by have:=hT t;simp only [ED,Bool.and_eq_true] at this;exact this.2) h2 g2⟩
  ·cases hv
end
theorem Rel.hand_ren (h:Rel C E X σ a) (rs:List Nat) (T:Bool):E.ren (pos rs 0) (E.hand σ rs T) :=
 ⟨fun b hb=>⟨.inl hb,rfl⟩,fun r r' hD hp=>by
   obtain ⟨_,h2⟩:=pos_spec rs 0 r r' hp;simp only [Nat.sub_zero] at h2
   exact ⟨(List.getElem?_eq_some_iff.1 h2).1,by simp [Env.hand,h2],by simp [Env.hand,h2]⟩⟩
theorem Rel.entry (h:Rel C E X σ a) {rs:List Nat} (hnd:rs.Nodup) {T:Bool} {objs:List (Nat × Obj)} (ho:BG σ (pos rs 0) 0 rs=some objs) :
 Entry (E.hand σ rs T) (fun r'=>match rs[r']? with | some k=>X k | none=>[]) objs rs.length:=by
 refine ⟨fun r=>Iff.rfl,?_,?_,?_,h.glob.sup fun b hb=> .inl hb⟩
 ·intro r o hro;obtain ⟨j,o1,_,hk,hk2,hk3⟩:=BB rs 0 objs ho r o hro;simp only [Nat.sub_zero] at hk;obtain ⟨g1,g2,g3,g4⟩:=h.objs j o1 hk2;have hsp:=CS hk3;refine ⟨(List.getElem?_eq_some_iff.1 hk).1,by simp [Env.hand,hk,g2,hsp.2.2.1],?_,?_⟩
  ·simp only [Env.hand,hk];exact g3.ren hk3
  simp only [hk];exact FVr.renObj hk3 (h.hand_ren rs T) g4
 ·intro r r' o o' b hro hro' hb hb';obtain ⟨j,o1,_,hk,hk2,hk3⟩:=BB rs 0 objs ho r o hro;obtain ⟨j',o1',_,hk',hk2',hk3'⟩:=BB rs 0 objs ho r' o' hro';simp only [Nat.sub_zero] at hk hk';simp only [Env.hand,hk] at hb;simp only [Env.hand,hk'] at hb';have:=h.apart j j' o1 o1' b hk2 hk2' hb hb';subst this;obtain ⟨hl,he⟩:=List.getElem?_eq_some_iff.1 hk;obtain ⟨hl',he'⟩:=List.getElem?_eq_some_iff.1 hk';exact (List.getElem_inj hnd).1 (he.trans he'.symm)
 intro b hb
 have hm:∀ r o,Al objs r=some o→∃ j o1,rs[r]?= some j∧Al σ.objs j=some o1∧(E.hand σ rs T).H r=E.H j:=by
  intro r o hro;obtain ⟨j,o1,_,hk,hk2,hk3⟩:=BB rs 0 objs ho r o hro;simp only [Nat.sub_zero] at hk;exact ⟨j,o1,hk,hk2,by simp [Env.hand,hk]⟩
 rcases hb with hb | ⟨_,hb1,hb2⟩
 ·obtain ⟨h1,h2⟩:=h.stay b hb;refine ⟨h1,fun r o hro e=>?_⟩;obtain ⟨j,o1,hj,hj2,hj3⟩:=hm r o hro;rw [hj3] at e;exact h2 j o1 hj2 e
 refine ⟨hb1,fun r o hro e=>?_⟩;obtain ⟨j,o1,hj,hj2,hj3⟩:=hm r o hro;rw [hj3] at e;exact hb2 j o1 (List.mem_of_getElem? hj) hj2 e
end hand
def CD (rs:List Nat) (N r:Nat):Option Nat:=match rs[r]? with
 |some j=>some j
 |none=>some (r - rs.length+N)
theorem K7 {rs:List Nat} {N r j:Nat} (h:CD rs N r=some j):rs[r]?= some j∨(rs.length≤r∧j=r - rs.length+N):=by
 unfold CD at h
 split at h
 ·rename_i g
  simp only [Option.some.injEq] at h;exact .inl (h ▸ g)
 rename_i g
 simp only [Option.some.injEq] at h;exact .inr ⟨List.getElem?_eq_none_iff.1 g,h.symm⟩
def Ea (rs:List Nat) (N:Nat):List (Nat × Obj)→Option (List (Nat × Obj))
 |[]=>some []
 |p :: l=>match CD rs N p.1,Cz (CD rs N) p.2,Ea rs N l with
  |some r,some o',some l'=>some ((r,o') :: l')
  |_,_,_=>none
theorem Ha {rs:List Nat} {N:Nat}:∀ {l l':List (Nat × Obj)},Ea rs N l=some l'→(∀ r r' j,CD rs N r=some j→CD rs N r'=some j→r=r')→∀ j o',Al l' j=some o'→∃ r o,CD rs N r=some j∧Al l r=some o∧Cz (CD rs N) o=some o'
 |[],l',h,_,r,o',hf=>by simp only [Ea,Option.some.injEq] at h;subst h;simp [Al] at hf
 |(k,o) :: l,l',h,hi,r,o',hf=>by
  simp only [Ea] at h
  split at h
  ·rename_i r1 o1 l1 h0 h1 h2
   simp only [Option.some.injEq] at h;subst h;rw [A8] at hf
   split at hf
   ·rename_i e
    simp only [Option.some.injEq] at hf;subst e hf;exact ⟨k,o,h0,by rw [A8,if_pos rfl],h1⟩
   ·rename_i e
    obtain ⟨r2,o2,g1,g2,g3⟩:=Ha h2 hi r o' hf;refine ⟨r2,o2,g1,?_,g3⟩;rw [A8,if_neg]
    ·exact g2
    ·intro e';subst e';rw [h0] at g1;simp only [Option.some.injEq] at g1;exact e g1
  ·cases h
theorem HD {rs:List Nat} {N:Nat}:∀ {l l':List (Nat × Obj)},Ea rs N l=some l'→∀ r o,Al l r=some o→∃ j o',CD rs N r=some j∧Al l' j=some o'
 |[],l',h,r,o,hf=>by simp [Al] at hf
 |(k,o1) :: l,l',h,r,o,hf=>by
  simp only [Ea] at h
  split at h
  ·rename_i r1 o2 l1 h0 h1 h2
   simp only [Option.some.injEq] at h;subst h;rw [A8] at hf
   split at hf
   ·rename_i e
    subst e;exact ⟨r1,o2,h0,by rw [A8,if_pos rfl]⟩
   ·obtain ⟨j,o',g1,g2⟩:=HD h2 r o hf
    by_cases e:r1=j
    ·exact ⟨j,o2,g1,by rw [A8,if_pos e]⟩
    ·exact ⟨j,o',g1,by rw [A8,if_neg e];exact g2⟩
  ·cases h
open Classical in
theorem Rel.back {C:Ctx} {E:Env} {X:Nat→List Value} {σ:St} {a:Act} (h:Rel C E X σ a) {rs:List Nat} (hnd:rs.Nodup) {T:Bool} {objs:List (Nat × Obj)} (ho:BG σ (pos rs 0) 0 rs=some objs)
 {E':Env} {X':Nat→List Value} {v v':AV} {objs' new:List (Nat × Obj)} {y:Value} {n n':Nat} (hr:Rel (Fy (E.hand σ rs T) objs rs.length) E' X' ⟨[(0,v)],objs',n,1,rs.length⟩ { tmps:= #[y],defers:=[] })
 (hdm:∀ r,E'.D r→r < rs.length∨∃ o,Al objs' r=some o) (hv:BX (CD rs σ.next) v=some v') (hn:Ea rs σ.next objs'=some new) (hn':∀ r o,Al new r=some o→r < n') (hle:σ.next≤n')
 (hm:T=true∨(noShAV v=true∧∀ r o,Al objs' r=some o→Hu o.rows)) (dst:Option Nat) (hd:∀ d,dst=some d→d < σ.nt) :
 ∃ E'' X'',E''.w=E'.w∧Rel C E'' X'' ({ σ with objs:=new ++ FB rs σ.objs,next:=n' }.put dst v') (a.put dst y):=by
 have hrs:∀ (i j:Nat),rs[i]?= some j→∃ o o',Al σ.objs j=some o∧Al objs i=some o':=by
  intro i j hij;obtain ⟨o',ho'⟩:=Gk rs 0 objs ho i (Nat.zero_le _) (by have:=(List.getElem?_eq_some_iff.1 hij).1;omega);obtain ⟨k,o,_,hk,hk2,_⟩:=BB rs 0 objs ho i o' ho';simp only [Nat.sub_zero] at hk;rw [hij] at hk;simp only [Option.some.injEq] at hk;subst hk;exact ⟨o,o',hk2,ho'⟩
 have hrD:∀ (i j:Nat),rs[i]?= some j→E.D j:=by
  intro i j hij;obtain ⟨o,_,h1,_⟩:=hrs i j hij;exact (h.objs j o h1).1
 have hown:∀ b,El (E.hand σ rs T) objs b→∃ j o,j ∈ rs∧Al σ.objs j=some o∧blockOf (E.H j)=some b:=by
  rintro b ⟨r,o,hro,hb⟩;obtain ⟨j,o1,_,hk,hk2,hk3⟩:=BB rs 0 objs ho r o hro;simp only [Nat.sub_zero] at hk;simp only [Env.hand,hk] at hb;exact ⟨j,o1,List.mem_of_getElem? hk,hk2,hb⟩
 have hkeep:∀ b,b < E.w.heap.size→¬ El (E.hand σ rs T) objs b→E'.w.heap[b]?= E.w.heap[b]?:=fun b hb hno=>hr.kept.block b hb hno;have hsize:E.w.heap.size≤E'.w.heap.size:=hr.kept.size
 let N:=σ.next
 have hNd:∀ r,N≤r→¬ E.D r:=fun r hN hD=>by have:=h.fresh r hD;omega
 have hinj:∀ r r' j,CD rs N r=some j→CD rs N r'=some j→r=r':=by
  intro r r' j h1 h2
  rcases K7 h1 with g1 | ⟨g1,e1⟩ <;> rcases K7 h2 with g2 | ⟨g2,e2⟩
  ·obtain ⟨hl,he⟩:=List.getElem?_eq_some_iff.1 g1;obtain ⟨hl',he'⟩:=List.getElem?_eq_some_iff.1 g2;exact (List.getElem_inj hnd).1 (he.trans he'.symm)
  ·exact absurd (hrD r j g1) (hNd j (by omega))
  ·exact absurd (hrD r' j g2) (hNd j (by omega))
  omega
 let E'':Env:=⟨E'.w,fun r=>if E.D r then E.H r else E'.H (r - N+rs.length),fun r=>if E.D r then E.Z r else E'.Z (r - N+rs.length),fun r=>E.D r∨(N≤r∧E'.D (r - N+rs.length)),fun b=>E'.S b∧(E.S b∨T=true)⟩
 have hback:∀ r j,E'.D r→CD rs N r=some j→E''.D j∧E''.H j=E'.H r∧E''.Z j=E'.Z r:=by
  intro r j hD hb
  unfold CD at hb
  split at hb
  ·rename_i j1 g1
   simp only [Option.some.injEq] at hb;subst hb;have hD':=hrD r j1 g1;have hlt:=(List.getElem?_eq_some_iff.1 g1).1;obtain ⟨e1,e2⟩:=hr.env r hlt;simp only [Fy,Env.hand,g1] at e1 e2;exact ⟨.inl hD',by simp [E'',hD',e1],by simp [E'',hD',e2]⟩
  rename_i g1
  simp only [Option.some.injEq] at hb;subst hb;rw [List.getElem?_eq_none_iff] at g1
  have e:r - rs.length+N - N+rs.length=r:=by omega
  have hnd':=hNd (r - rs.length+N) (by omega)
  refine ⟨.inr ⟨by omega,by rw [e];exact hD⟩,?_,?_⟩ <;> simp only [E'',hnd',if_false,e]
 have hESc:∀ b,E.S b→¬ El (E.hand σ rs T) objs b:=by
  intro b hb hw;obtain ⟨j,o,_,hj,hbk⟩:=hown b hw;exact (h.stay b hb).2 j o hj hbk
 have hleE:E.le E'':=by
  refine ⟨fun b hb=>⟨⟨hr.base b (.inl hb), .inl hb⟩,hkeep b (h.stay b hb).1 (hESc b hb)⟩,fun r hD=>⟨.inl hD,by simp [E'',hD],by simp [E'',hD]⟩⟩
 have hval:∀ (u u':AV) (x:Value),(T=true∨noShAV u=true)→BX (CD rs N) u=some u'→FV E' u x→FV E'' u' x:=by
  intro u u' x hor hru hx
  rcases hor with hor | hor
  ·exact FV.ren (E:=E') (E':=E'') ⟨fun b hb=>⟨⟨hb, .inr hor⟩,rfl⟩,hback⟩ hru hx
  exact FV.ren (E:=E'.noS) (E':=E'') ⟨fun b hb=>hb.elim,hback⟩ hru (FV.noSh hor hx)
 have hobj:∀ (o o':Obj) (xs:List Value),(T=true∨Hu o.rows)→Cz (CD rs N) o=some o'→FVr (E'.by o.cl) o.sz o.rows xs→FVr (E''.by o'.cl) o'.sz o'.rows xs:=by
  intro o o' xs hor hro hx
  rcases hor with hor | hor
  ·exact FVr.renObj (E:=E') (E':=E'') hro ⟨fun b hb=>⟨⟨hb, .inr hor⟩,rfl⟩,hback⟩ hx
  have h1:=FVr.noSh hor hx;rw [SU] at h1;exact FVr.renObj (E:=E'.noS) (E':=E'') hro ⟨fun b hb=>hb.elim,hback⟩ h1
 have hcase:∀ r o,Al (new ++ FB rs σ.objs) r=some o→(∃ r0 o0,CD rs N r0=some r∧Al objs' r0=some o0∧Cz (CD rs N) o0=some o)∨(Al σ.objs r=some o∧r ∉ rs):=by
  intro r o hf;rw [AZ] at hf
  cases hf':Al new r with
  |none=>rw [hf'] at hf;exact .inr ((KB rs _ _ _).1 (by simpa using hf))
  |some o1 =>
   rw [hf'] at hf;simp only [Option.some_or,Option.some.injEq] at hf;subst hf;exact .inl (Ha hn hinj r o1 hf')
 have hHb:∀ r0 o0 j,CD rs N r0=some j→Al objs' r0=some o0→E''.H j=E'.H r0∧E''.D j∧E''.Z j=E'.Z r0:=by
  intro r0 o0 j hb hf;have hD:=(hr.objs r0 o0 hf).1;obtain ⟨g1,g2,g3⟩:=hback r0 j hD hb;exact ⟨g2,g1,g3⟩
 have hoD:∀ r o,Al σ.objs r=some o→E''.H r=E.H r:=fun r o hf=>by simp [E'',(h.objs r o hf).1]
 have hsep:∀ r0 o0 r o b,Al objs' r0=some o0→blockOf (E'.H r0)=some b→Al σ.objs r=some o→r ∉ rs→blockOf (E.H r)≠some b:=by
  intro r0 o0 r o b hf hb hfo hnr e
  rcases hr.mine r0 o0 b hf hb with hw | hge
  ·obtain ⟨j,o1,hj,hjo,hjb⟩:=hown b hw;exact h.hand_apart hnr hj hjo hjb hfo e
  have:=(h.objs r o hfo).2.2.1.lt e;simp only [Fy,Env.hand] at hge;omega
 have hrel:Rel C E'' (fun r=>if (Al new r).isSome then (if E.D r then X' ((pos rs 0 r).getD 0) else X' (r - N+rs.length)) else X r) { σ with objs:=new ++ FB rs σ.objs,next:=n' } a:=by
  have hX:∀ r o,Al new r=some o→∀ r0,CD rs N r0=some r→(if E.D r then X' ((pos rs 0 r).getD 0) else X' (r - N+rs.length))=X' r0:=by
   intro r o hf r0 hb;have hb0:=hb
   unfold CD at hb
   split at hb
   ·rename_i j1 g1
    simp only [Option.some.injEq] at hb;subst hb;rw [if_pos (hrD r0 j1 g1)]
    cases hp:pos rs 0 j1 with
    |none=>exact absurd (List.mem_of_getElem? g1) (pos_none hp)
    |some i =>
     obtain ⟨_,h2⟩:=pos_spec rs 0 j1 i hp;simp only [Nat.sub_zero] at h2
     have hb1:CD rs N i=some j1:=by simp [CD,h2]
     rw [Option.getD_some,hinj i r0 j1 hb1 hb0]
   rename_i g1
   simp only [Option.some.injEq] at hb;subst hb;rw [List.getElem?_eq_none_iff] at g1;rw [if_neg (hNd _ (by omega)),show r0 - rs.length+N - N+rs.length=r0 by omega]
  refine ⟨fun s u hu=>FV.le _ hleE _ (h.slots s u hu),h.size,h.defers,?_,?_,?_,?_,?_,?_,?_,fun r hk=> .inl (h.envD r hk),fun b hb=>(hleE.stay b (h.base b hb)).1,?_,h.envk,h.glob.le hleE⟩
  ·intro r o hf;have hf0:=hf
   rcases hcase r o hf with ⟨r0,o0,g1,g2,g3⟩ | ⟨g1,g2⟩
   ·obtain ⟨k1,k2,k3,k4⟩:=hr.objs r0 o0 g2;obtain ⟨e1,e2,e3⟩:=hHb r0 o0 r g1 g2;have hsp:=CS g3
    have hfn:∃ o1,Al new r=some o1:=by
     obtain ⟨j,o1,q1,q2⟩:=HD hn r0 o0 g2;rw [g1] at q1;simp only [Option.some.injEq] at q1;subst q1;exact ⟨o1,q2⟩
    obtain ⟨o1,hfn⟩:=hfn;simp only [hfn,Option.isSome_some,if_true];rw [hX r o1 hfn r0 g1,e1,e3]
    exact ⟨e2,k2.trans hsp.2.2.1.symm,k3.ren g3,hobj o0 o _ (by
     rcases hm with hm | hm
     ·exact .inl hm
     exact .inr (hm.2 r0 o0 g2)) g3 k4⟩
   have hfn:Al new r=none:=by
    cases hf':Al new r with
    |none=>rfl
    |some o1 =>
     obtain ⟨r0,o0,q1,q2,q3⟩:=Ha hn hinj r o1 hf'
     exfalso
     unfold CD at q1
     split at q1
     ·rename_i j1 q4
      simp only [Option.some.injEq] at q1;subst q1;exact g2 (List.mem_of_getElem? q4)
     simp only [Option.some.injEq] at q1;exact hNd r (by omega) (h.objs r o g1).1
   simp only [hfn,Option.isSome_none,Bool.false_eq_true,if_false];obtain ⟨k1,k2,k3,k4⟩:=h.objs r o g1;obtain ⟨q1,q2,q3⟩:=hleE.root r k1;rw [q2,q3];refine ⟨q1,k2,k3.kept (fun b hb=>hkeep b (k3.lt hb) (fun hw=>?_)),FVr.le _ _ (hleE.by _) _ k4⟩;obtain ⟨j,o1,hj,hjo,hjb⟩:=hown b hw;exact h.hand_apart g2 hj hjo hjb g1 hb
  ·intro r r' o o' b hf hf' hb hb'
   rcases hcase r o hf with ⟨r0,o0,g1,g2,g3⟩ | ⟨g1,g2⟩ <;> rcases hcase r' o' hf' with ⟨r0',o0',g1',g2',g3'⟩ | ⟨g1',g2'⟩
   ·rw [(hHb r0 o0 r g1 g2).1] at hb;rw [(hHb r0' o0' r' g1' g2').1] at hb';have:=hr.apart r0 r0' o0 o0' b g2 g2' hb hb';subst this;rw [g1] at g1'
    simpa using g1'
   ·rw [(hHb r0 o0 r g1 g2).1] at hb;rw [hoD r' o' g1'] at hb';exact absurd hb' (hsep r0 o0 r' o' b g2 hb g1' g2')
   ·rw [(hHb r0' o0' r' g1' g2').1] at hb';rw [hoD r o g1] at hb;exact absurd hb (hsep r0' o0' r o b g2' hb' g1 g2)
   rw [hoD r o g1] at hb;rw [hoD r' o' g1'] at hb';exact h.apart r r' o o' b g1 g1' hb hb'
  ·rintro b ⟨hb1,hb2⟩;refine ⟨(hr.stay b hb1).1,fun r o hf e=>?_⟩
   rcases hcase r o hf with ⟨r0,o0,g1,g2,g3⟩ | ⟨g1,g2⟩
   ·rw [(hHb r0 o0 r g1 g2).1] at e;exact (hr.stay b hb1).2 r0 o0 g2 e
   rw [hoD r o g1] at e
   rcases hb2 with hb2 | rfl
   ·exact (h.stay b hb2).2 r o g1 e
   rcases hr.grow b hb1 with hg | hg | hg
   ·rcases hg with hg | ⟨hg,_⟩
    ·exact (h.stay b hg).2 r o g1 e
    cases hg
   ·have:=(h.objs r o g1).2.2.1.lt e;simp only [Fy,Env.hand] at hg;omega
   obtain ⟨j,o1,hj,hjo,hjb⟩:=hown b hg;exact h.hand_apart g2 hj hjo hjb g1 e
  ·rintro r (hD | ⟨h1,h2⟩)
   ·exact Nat.lt_of_lt_of_le (h.fresh r hD) hle
   rcases hdm _ h2 with h3 | ⟨o,h3⟩
   ·exact absurd h3 (by omega)
   obtain ⟨j,o',g1,g2⟩:=HD hn _ o h3
   have:j=r:=by
    unfold CD at g1
    rw [List.getElem?_eq_none_iff.2 (by omega)] at g1;simp only [Option.some.injEq] at g1;omega
   subst this;exact hn' j o' g2
  ·refine ⟨hr.kept.os.trans h.kept.os,h.kept.tape.trans hr.kept.tape,hr.kept.output.trans h.kept.output,Nat.le_trans h.kept.size hsize,fun b hb hno=>?_⟩;rw [show E''.w=E'.w from rfl,hkeep b (Nat.lt_of_lt_of_le hb h.kept.size)]
   ·exact h.kept.block b hb hno
   intro hw;obtain ⟨j,o1,hj,hjo,hjb⟩:=hown b hw
   rcases h.mine j o1 b hjo hjb with hq | hq
   ·exact hno hq
   omega
  ·intro r o b hf hb
   rcases hcase r o hf with ⟨r0,o0,g1,g2,g3⟩ | ⟨g1,g2⟩
   ·rw [(hHb r0 o0 r g1 g2).1] at hb
    rcases hr.mine r0 o0 b g2 hb with hw | hge
    ·obtain ⟨j,o1,hj,hjo,hjb⟩:=hown b hw;exact h.mine j o1 b hjo hjb
    exact .inr (Nat.le_trans h.kept.size hge)
   rw [hoD r o g1] at hb;exact h.mine r o b g1 hb
  ·intro r hk;obtain ⟨_,q2,q3⟩:=hleE.root r (h.envD r hk);rw [q2,q3];exact h.env r hk
  rintro b ⟨hb1,hb2⟩
  rcases hb2 with hb2 | rfl
  ·exact h.grow b hb2
  rcases hr.grow b hb1 with hg | hg | hg
  ·rcases hg with hg | ⟨hg,_⟩
   ·exact h.grow b hg
   cases hg
  ·exact .inr (.inl (Nat.le_trans h.kept.size hg))
  obtain ⟨j,o1,hj,hjo,hjb⟩:=hown b hg
  rcases h.mine j o1 b hjo hjb with hq | hq
  ·exact .inr (.inr hq)
  exact .inr (.inl hq)
 refine ⟨E'',_,rfl,hrel.put dst hd (hval v v' y ?_ hv (hr.slots 0 v rfl))⟩
 rcases hm with hm | hm
 ·exact .inl hm
 exact .inr hm.1
theorem SeqL.callR {P:Program} {ops:Array Oper} {o:Oper} {rest:List Oper} {σ:St} {Q:St→Prop} {x:Operand} {as:Array Operand} {ts:Array TypeId} {g:FuncId} {first caps:List AV} {vs:List AV} {objs:List (Nat × Obj)} {Post:AV→List (Nat × Obj)→Prop}
 (rs:List Nat) (T:Bool) (hg:AL (AU ops) σ o.guard=some true) (ho:o.op= .call { callee:= .value x,args:=as,argTypes:=ts }) (hc:calleeOf (σ.ev x)=some (g,first,caps)) (hnd:rs.Nodup)
 (hv:EC σ rs (first ++ (as.toList.map σ.ev ++ caps))=some vs) (hob:BG σ (pos rs 0) 0 rs=some objs) (hT:T=true→ED rs (first ++ (as.toList.map σ.ev ++ caps))=true) (hF:FunR P g vs objs rs.length Post)
 (hm:T=true∨∀ v l,Post v l→noShAV v=true∧∀ r ob,Al l r=some ob→Hu ob.rows) (hd:∀ d,o.dst=some d→d < σ.nt)
 (h:∀ v l,Post v l→∃ v' new n',BX (CD rs σ.next) v=some v'∧Ea rs σ.next l=some new∧(∀ r ob,Al new r=some ob→r < n')∧σ.next≤n' ∧
   SeqL P ops rest ({ σ with objs:=new ++ FB rs σ.objs,next:=n' }.put o.dst v') Q):SeqL P ops (o :: rest) σ Q:=by
 intro C E X a hr Q' hq;simp only [CW,hr.guard hg,if_true];obtain ⟨xs,ys,hx,h1,h2⟩:=J1 hc (hr.ev x);have hargs:FVs E (first ++ (as.toList.map σ.ev ++ caps)) (xs.toList ++ (as.toList.map a.eval ++ ys.toList)):=h1.append ((hr.evs _).append h2)
 have hrun:(execOp a.eval o).run P E.w= .ok (.enter g (xs.toList ++ (as.toList.map a.eval ++ ys.toList)).toArray) E.w:=by
  unfold execOp
  simp only [ho,resolve,Deferred.ofValue,hx,Sem.run_bind,Sem.run_pure,Result.andThen_ok,invoke];rw [Iz hF.1]
  congr 2
  apply Array.ext'
  simp
 unfold Oper.wp
 rw [hrun];simp only [Oper.upon];refine (hF.2 (E.hand σ rs T) _ _ (hr.entry hnd hob) (FVs.hand hr hT hv hargs)).mono ?_;rintro e w' ⟨y,v,l,E',X',n,rfl,rfl,hP,hdm,hrel⟩;obtain ⟨v',new,n',g1,g2,g3,g4,g5⟩:=h v l hP
 obtain ⟨E'',X'',he,hr'⟩:=hr.back hnd hob hrel hdm g1 g2 g3 g4 (by
  rcases hm with hm | hm
  ·exact .inl hm
  exact .inr (hm v l hP)) o.dst hd
 rw [← he];exact g5 C E'' X'' _ hr' Q' hq
end Go.AM
