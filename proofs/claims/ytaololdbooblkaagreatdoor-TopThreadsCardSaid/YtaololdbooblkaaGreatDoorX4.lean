/-
  Part 4 of the proof: the abstract machine, proved sound over the model.
  Conditions: none.
-/
import Derived.Lib.UnsafeStr
import Derived.Test.YtaololdbooblkaaGreatDoorX3
set_option linter.unusedVariables false
set_option linter.unusedSimpArgs false
set_option linter.unusedSectionVars false
set_option linter.unnecessarySimpa false
namespace Go.AM
def Ci (P:Program) (t:TypeId):Option (List (Nat × Nat)) :=
 match P.underlying t with
 |some (.struct fields)=>fields.toList.mapM (fun f=>(P.info? f.type).map fun i=>(f.offset,i.size))
 |_=>none
theorem Rz {P:Program} {t:TypeId} {pl:List (Nat × Nat)} (h:Ci P t=some pl):G2 P t=some fun i=>pl[i]?:=by
 unfold Ci at h
 unfold G2
 split at h
 ·rename_i fields hu
  simp only [hu,h,Option.map_some]
  congr 1
  funext i
  simp
 cases h
theorem So {α:Type} {c:Bool} {x:Option α} {v:α} (h:(bif c then none else x)=some v):c=false∧x=some v:=by
 cases c
 ·exact ⟨rfl,h⟩
 simp at h
def E7 (P:Program) (t:TypeId):Option (Nat × TypeId) :=
 match P.underlying t with
 |some (.array n e)=>some (n,e)
 |_=>none
theorem KT {P:Program} {t:TypeId} {n:Nat} {e:TypeId} (h:E7 P t=some (n,e)):P.underlying t=some (.array n e):=by
 unfold E7 at h
 split at h
 ·rename_i hu
  simp only [Option.some.injEq,Prod.mk.injEq] at h;rw [hu,h.1,h.2]
 cases h
def IR (P:Program) (t:TypeId):Option (Nat→Option (Nat × Nat)) :=
 match Ci P t with
 |some pl=>some fun i=>pl[i]?
 |none=>(E7 P t).bind fun q=>bif Nat.beq (P.cellsOf q.2) 0 then none else some fun k=>some (k * P.cellsOf q.2,P.cellsOf q.2)
theorem Ry {P:Program} {t:TypeId} {f:Nat→Option (Nat × Nat)} (h:IR P t=some f):G2 P t=some f:=by
 unfold IR at h
 split at h
 ·rename_i pl hpl
  simp only [Option.some.injEq] at h;rw [← h,Rz hpl]
 simp only [Option.bind_eq_some_iff] at h;obtain ⟨⟨n,e⟩,ha,h⟩:=h;have hu:=KT ha
 unfold G2
 simp only [hu]
 cases hi:P.info? e with
 |none=>simp [Program.cellsOf,hi,Nat.beq] at h
 |some i =>
  simp only [B8 hi] at h;obtain ⟨hb,h⟩:=So h
  simpa using h
def QI (P:Program) (t:TypeId) (n:Int) (v:AV):Option AV :=
 (E7 P t).bind fun q=>bif Nat.beq (P.cellsOf q.2) 0 then none else if 0≤n∧n < q.1 then Gu (n.toNat * P.cellsOf q.2) v else none
def C0 (x:Option Value):Option (AV × List (Nat × Obj)):=x.map fun z=>(.lit z,[])
def Dx (x:Option AV):Option (AV × List (Nat × Obj)):=x.map fun v=>(v,[])
def De (P:Program) (op:BinOp) (t:TypeId) (x y:Operand) (a b:Value):Option Value:=Br P (do eqGuard op t x y a b;binOp op t a b)
def X5 (P:Program) (op:UnOp) (a:Value):Option Value:=Br P (Op.unary op a)
def conv (P:Program) (s d:TypeId) (a:Value):Option Value:=Br P (convert s d a)
def VX (P:Program) (t:TypeId) (a:Value):Option Value:=Br P (Instr.makeInterface t a)
def S9 (P:Program) (t:TypeId) (a i:Value):Option Value:=Br P (Instr.index t a i)
def Kg (P:Program) (t:TypeId) (a:Value) (lo hi:Option Value):Option Value:=Br P (Instr.sliceAt t a lo hi none)
def OI (P:Program) (ts:Array TypeId) (as:List Value):Option Value:=Br P (Builtin.max_ ts 0 as.toArray)
def OJ (P:Program) (ts:Array TypeId) (as:List Value):Option Value:=Br P (Builtin.min_ ts 0 as.toArray)
def Ur (P:Program) (ts:Array TypeId) (as:List Value):Option Value:=Br P (Builtin.len_ ts 0 as.toArray)
def Eu (σ:St):Option Operand→Option (Option Value)
 |none=>some none
 |some x=>(toVal (σ.ev x)).map some
def sdataAV:AV→Option (AV × List (Nat × Obj))
 |.als r lo n=>bif Nat.beq lo 0 && Nat.blt 0 n then some (.adr r 0 0,[]) else none
 |.lit (.slice none 0 0)=>some (.lit (.pointer none),[])
 |_=>none
def capAV:AV→Option (AV × List (Nat × Obj))
 |.lit (.slice none 0 0)=>some (.lit (.int .i64 0),[])
 |_=>none
def Bz (P:Program) (σ:St) (b:Builtin) (as:Array Operand) (ts:Array TypeId):Option (AV × List (Nat × Obj)) :=
 match b with
 |.len=>match as.toList,ts.toList with
  |[x],[t]=>match A9 P t with
   |some _=>(lenAV (σ.ev x)).map fun (n:Nat)=>(.lit (.int .i64 (n:Int)),[])
   |none=>match EN σ (σ.ev x) with
    |some q=>(ES P t).bind fun p=>bif Nat.beq q.1 (msz p.2) then some (.lit (.int .i64 ((q.2.length:Nat):Int)),[]) else none
    |none=>C0 ((toVals (as.toList.map σ.ev)).bind fun l=>Ur P ts l)
  |_,_=>none
 |.max=>C0 ((toVals (as.toList.map σ.ev)).bind fun l=>OI P ts l)
 |.min=>C0 ((toVals (as.toList.map σ.ev)).bind fun l=>OJ P ts l)
 |.unsafeSliceData=>match as.toList with
  |[x]=>sdataAV (σ.ev x)
  |_=>none
 |.cap=>match as.toList,ts.toList with
  |[x],[t]=>match A9 P t with
   |some _=>capAV (σ.ev x)
   |none=>none
  |_,_=>none
 |_=>none
def YR (m m':Int) (l c b:Nat):Bool:=decide (m'=m∧0≤m∧m≤1000000∧l=c∧c≠0∧m.toNat * b≤100000000∧m.toNat * c≤16777216)
def At (P:Program) (σ:St) (id:Nat):Op→Option (AV × List (Nat × Obj))
 |.move x=>some (σ.ev x,[])
 |.assign x=>some (σ.ev x,[])
 |.pick c x y=>match σ.ev c with
  |.lit (.bool t)=>some (if t then σ.ev x else σ.ev y,[])
  |_=>none
 |.binOp op t x y _=>match toVal (σ.ev x),toVal (σ.ev y) with
  |some a,some b=>C0 (De P op t x y a b)
  |_,_=>none
 |.unOp op _ x=>C0 ((toVal (σ.ev x)).bind fun a=>X5 P op a)
 |.convert s d x=>C0 ((toVal (σ.ev x)).bind fun a=>conv P s d a)
 |.makeInterface t x=>C0 ((toVal (σ.ev x)).bind fun a=>VX P t a)
 |.index t x i=>match toVal (σ.ev x),toVal (σ.ev i) with
  |some a,some b=>C0 (S9 P t a b)
  |_,_=>none
 |.load t x=>Dx (EI P σ t (σ.ev x))
 |.fieldAddr s x f=>(AX P s f).bind fun p=>bif Nat.beq (P.cellsOf p.2) 0 then none else Dx (Gu p.1 (σ.ev x))
 |.field s x f=>(AX P s f).bind fun p=>match σ.ev x with
  |.agg cs=>Dx (JZ P p.2 cs p.1)
  |_=>none
 |.indexAddr t x i=>match σ.ev i with
  |.lit (.int _ n)=>match A9 P t with
   |some e=>bif Nat.beq (P.cellsOf e) 0 then none else Dx (EL σ (P.cellsOf e) (σ.ev x) n)
   |none=>Dx (QI P t n (σ.ev x))
  |_=>none
 |.slice t x lo hi none=>match A9 P t with
  |some e=>bif Nat.beq (P.cellsOf e) 0 then none else
   (lenAV (σ.ev x)).bind fun n=>(CN σ 0 lo).bind fun l=>(CN σ n hi).bind fun h =>
     match σ.ev x with
     |.als r a b=>(Al σ.objs r).bind fun ob=>bif Nat.beq ob.sz (P.cellsOf e) then Dx (Ew (.als r a b) l h) else none
     |.sh s rows=>bif Nat.beq s (P.cellsOf e) then Dx (Ew (.sh s rows) l h) else none
     |_=>none
  |none=>match toVal (σ.ev x),Eu σ lo,Eu σ hi with
   |some a,some l,some h=>C0 (Kg P t a l h)
   |_,_,_=>none
 |.alloc t=>(AK P t).map fun cs=>(.adr id 0 0,[(id,⟨false,t,cs.length,[cs],true⟩)])
 |.box t x=>(cellsAV (σ.ev x)).map fun cs=>(.adr id 0 0,[(id,⟨false,t,cs.length,[cs],closedL cs⟩)])
 |.build t parts=>(AK P t).bind fun zs=>(IR P t).bind fun pl=>Dx ((FD pl zs (parts.toList.map fun p=>(p.1,σ.ev p.2))).map .agg)
 |.buildSlice t len parts=>(A9 P t).bind fun e=>(AK P e).bind fun zs=>(GS (P.cellsOf e) 0 (parts.toList.map fun p=>(p.1,σ.ev p.2))).bind fun rows =>
  bif Nat.beq zs.length (P.cellsOf e) && !Nat.beq (P.cellsOf e) 0 && Nat.beq rows.length len && Nat.ble (len * P.cellsOf e) 16777216 then some (.als id 0 len,[(id,⟨true,e,P.cellsOf e,rows,closedR rows⟩)]) else none
 |.makeSlice t x y=>match σ.ev x,σ.ev y with
  |.lit (.int _ m), .lit (.int _ m')=>(A9 P t).bind fun e=>(AK P e).bind fun zs=>bif YR m m' zs.length (P.cellsOf e) (P.bytesOf e) then some (.als id 0 m.toNat,[(id,⟨true,e,P.cellsOf e,List.replicate m.toNat zs,true⟩)]) else none
  |_,_=>none
 |.makeFunc f first caps=>some (.fn f (first.toList.map σ.ev) (caps.toList.map σ.ev),[])
 |.extract x k=>match σ.ev x with
  |.tup vs=>Dx (vs[k]?)
  |_=>none
 |.nilCheck x=>match σ.ev x with
  |.adr r i j=>some (.adr r i j,[])
  |.sadr row j=>some (.sadr row j,[])
  |_=>none
 |.call { callee:= .builtin b,args:=as,argTypes:=ts }=>Bz P σ b as ts
 |.makeMap t none=>(ES P t).map fun p=>(.hd id,[(id,⟨true,t,msz p.2,[],true⟩)])
 |.lookup t x i ok=>(ES P t).bind fun p=>(EN σ (σ.ev x)).bind fun q=>(toVal (σ.ev i)).bind fun k=>bif Nat.beq q.1 (msz p.2) && keyB p.1 k then (Fh p.1 k q.2 0).bind fun r=>Dx (JS p.2 ok r) else none
 |.range t x=>match σ.ev x with
  |.shm sz rows=>(ES P t).map fun _=>(.hd id,[(id,⟨false,0,1,[[.rem sz [] rows]],true⟩)])
  |_=>none
 |.entry x=>(HR σ (σ.ev x)).bind fun q=>Dx ((entAV q.2).map fun u=> .tup [q.1,u])
 |_=>none
theorem Dl {C:Ctx} {E:Env} {X:Nat→List Value} {σ:St} {a:Act} (h:Rel C E X σ a) {x:Operand} {v:Value} (hv:toVal (σ.ev x)=some v):a.eval x=v:=FV.toVal hv (h.ev x)
theorem GW {C:Ctx} {E:Env} {X:Nat→List Value} {σ:St} {a:Act} (h:Rel C E X σ a) {l:List Operand} {vs:List Value} (hv:toVals (l.map σ.ev)=some vs):l.map a.eval=vs:=FVs.toVals hv (h.evs l)
theorem Nk {C:Ctx} {E:Env} {X:Nat→List Value} {σ:St} {a:Act} (h:Rel C E X σ a) {x:Option Operand} {v:Option Value} (hv:Eu σ x=some v):x.map a.eval=v:=by
 cases x with
 |none=>simp only [Eu,Option.some.injEq] at hv;exact hv
 |some y =>
  simp only [Eu,Option.map_eq_some_iff] at hv;obtain ⟨u,h1,rfl⟩:=hv
  simp [Dl h h1]
theorem Cr {x:Option Value} {v:AV} {new:List (Nat × Obj)} (h:C0 x=some (v,new)):∃ z,x=some z∧v= .lit z∧new=[]:=by
 unfold C0 at h
 simp only [Option.map_eq_some_iff,Prod.mk.injEq] at h;obtain ⟨z,h1,h2,h3⟩:=h;exact ⟨z,h1,h2.symm,h3.symm⟩
theorem BY {x:Option AV} {v:AV} {new:List (Nat × Obj)} (h:Dx x=some (v,new)):x=some v∧new=[]:=by
 unfold Dx at h
 simp only [Option.map_eq_some_iff,Prod.mk.injEq] at h;obtain ⟨z,h1,h2,h3⟩:=h;exact ⟨by rw [h1,h2],h3.symm⟩
theorem CF {α:Type} {c:Bool} {x:Option α} {v:α} (h:(bif c then x else none)=some v):c=true∧x=some v:=by
 cases c
 ·simp at h
 exact ⟨rfl,h⟩
theorem E8 {α:Type} {c:Bool} {x:Option α} {v:α} (h:(bif c then none else x)=some v):c=false∧x=some v:=by
 cases c
 ·exact ⟨rfl,h⟩
 simp at h
theorem Dg {m n:Nat} (h:Nat.beq m n=false):m≠n:=by
 intro e;subst e;rw [Nat.beq_refl] at h
 cases h
theorem YI {x:Int} (h: -9223372036854775808≤x) (h':x≤9223372036854775807):IntKind.i64.wrap x=x:=by
 have e:IntKind.i64.wrap x=if x % 18446744073709551616 ≥ 9223372036854775808 then x % 18446744073709551616 - 18446744073709551616 else x % 18446744073709551616:=by
  simp [IntKind.wrap,IntKind.bits,IntKind.signed]
 rw [e]
 split <;> omega
theorem Nr {α:Type} [Inhabited α] (zc:Array α):∀ n,((Array.range (n * zc.size)).map (fun k=>zc[k % zc.size]!)).toList=(List.replicate n zc.toList).flatten:=by
 intro n;rw [Array.toList_map,Array.toList_range]
 induction n with
 |zero=>simp
 |succ n ih =>
  rw [Nat.succ_mul,List.range_add,List.map_append,ih,List.replicate_succ',List.flatten_append]
  congr 1
  simp only [List.flatten_cons,List.flatten_nil,List.append_nil,List.map_map]
  apply List.ext_getElem
  ·simp
  intro i h1 h2;simp only [List.length_map,List.length_range] at h1;simp only [List.getElem_map,List.getElem_range,Function.comp_apply,Array.getElem_toList]
  have e:(n * zc.size+i) % zc.size=i:=by rw [Nat.mul_comm,Nat.mul_add_mod,Nat.mod_eq_of_lt h1]
  rw [e,getElem!_pos zc i h1]
theorem Mo {E:Env} {sz:Nat} {zs:List AV} {ys:List Value} (hl:zs.length=sz) (h:FVc E zs ys):∀ n,FVr E sz (List.replicate n zs) (List.replicate n ys).flatten
 |0=>rfl
 |n+1=>by
  rw [List.replicate_succ,List.replicate_succ,List.flatten_cons];simp only [FVr];exact ⟨ys,_,rfl,hl,h,Mo hl h n⟩
theorem Local.makeSlice {P:Program} {σ:St} {o:Oper} {ty el by' m id:Nat} {x y:Operand} {k1 k2:IntKind} {zs:List AV} (ho:o.op= .makeSlice ty x y) (ht:A9 P ty=some el) (hz:AK P el=some zs) (hzl:zs.length=P.cellsOf el) (hpos:P.cellsOf el≠0)
 (hby:P.bytesOf el=by') (hx:σ.ev x= .lit (.int k1 (m:Int))) (hy:σ.ev y= .lit (.int k2 (m:Int))) (hm:m≤1000000) (hmb:m * by'≤100000000) (hmc:m * P.cellsOf el≤2 ^ 24) :
 Local P σ o (.als id 0 m) [(id,⟨true,el,P.cellsOf el,List.replicate m zs,true⟩)] :=
 Local.alloc fun C E X a hr=>by
  obtain ⟨i,z,hi,hzz,rfl,hzr,hfv⟩:=Ca hz;have hsz:=B8 hi;rw [hsz] at hpos hzl hmc;simp only [List.length_map,Array.length_toList] at hzl
  have hbi:i.bytes=by':=by rw [← hby];simp [Program.bytesOf,hi]
  have hund:=BL ht;have hX:a.eval x= .int k1 (m:Int):=Dl hr (by rw [hx];rfl);have hY:a.eval y= .int k2 (m:Int):=Dl hr (by rw [hy];rfl)
  have hrow:((Array.range (m * i.size)).map (fun k=>z.cells[k % z.cells.size]!)).toList=(List.replicate m z.cells.toList).flatten:=by
   rw [← hzl];exact Nr z.cells m
  have hcs:((Array.range (m * i.size)).map (fun k=>z.cells[k % z.cells.size]!)).size=m * i.size:=by simp
  have hW:IntKind.i64.wrap (m:Int)=m:=YI (by omega) (by omega);refine ⟨.slice (some ⟨E.w.heap.size,0,none⟩) m m,(List.replicate m z.cells.toList).flatten,(Array.range (m * i.size)).map (fun k=>z.cells[k % z.cells.size]!),el,?_,rfl,?_,by rw [hsz];exact Mo (by simp [hzl]) (hfv _) m,?_⟩
  ·unfold execOp
   have hb0:¬ ((i.bytes:Int) * (m:Int) > 2 ^ 48):=by
    have:(i.bytes:Int) * (m:Int)=((m * by':Nat):Int):=by rw [hbi,Nat.mul_comm];simp
    rw [this];omega
   have hroom:¬ (m * i.bytes > roomBytes):=by rw [hbi];simp only [roomBytes];omega
   have hm0:¬ ((m:Int) < 0):=by omega
   have hmm:¬ ((m:Int) > (m:Int)):=by omega
   have hA:∀ (k:IntKind) (w:World),(asInt (.int k (m:Int))).run P w= .ok (m:Int) w:=fun k w=>by simp [asInt,asIntOf]
   have hT:∀ w,(typeInfo el).run P w= .ok i w:=fun w=>by simp [typeInfo,hi]
   have hR:∀ w,(askRoom (m * i.bytes)).run P w= .ok () w:=fun w=>by simp [askRoom,hroom]
   simp only [ho,Instr.makeSlice,Sem.run_bind,run_underlying hund,Result.andThen_ok,hX,hY,hA,hT,hW,hm0,hb0,hmm,decide_false,Bool.or_self,Bool.false_eq_true,or_self,if_false,Int.toNat_natCast,hR,Cl hi]
   by_cases h0:m * i.size=0
   ·simp only [h0,if_true,Sem.run_pure,Result.andThen_ok,Array.range_zero',List.map_toArray,List.map_nil,Array.map_empty]
    simp [newRow]
   ·simp only [h0,if_false,Sem.run_bind,hzr,Result.andThen_ok,Sem.run_pure]
    simp [newRow]
  ·refine Or.inr (Or.inl ⟨E.w.heap.size,m,(Array.range (m * i.size)).map (fun k=>z.cells[k % z.cells.size]!),by simp,heap_alloc_new E.w _,by simp,?_,by rw [hsz,hcs],?_⟩)
   ·simp only [maxLen];omega
   ·rw [hrow,hsz,List.take_of_length_le];rw [← hrow,Array.length_toList,hcs];simp
  ·intro E' hd hH hZ;simp only [FV];refine ⟨hd,_,_,_,_,_,hH,rfl,Nat.le_refl _,fun _=>⟨rfl,rfl⟩,fun _=>⟨_,rfl,rfl,?_⟩⟩
   simp [Addr.add_zero']
theorem K5 {P:Program} {σ:St} {o:Oper} {b:Builtin} {as:Array Operand} {ts:Array TypeId} {v:AV} {new:List (Nat × Obj)} (ho:o.op= .call { callee:= .builtin b,args:=as,argTypes:=ts })
 (h:Bz P σ b as ts=some (v,new)):Local P σ o v new:=by
 cases b <;> try (simp [Bz] at h;done)
 case len =>
  simp only [Bz] at h
  split at h
  ·rename_i x t hx ht
   have hxe:as= #[x]:=by cases as;simp at hx;simp [hx]
   have hte:ts= #[t]:=by cases ts;simp at ht;simp [ht]
   subst hxe hte
   split at h
   ·rename_i e he
    simp only [Option.map_eq_some_iff,Prod.mk.injEq] at h;obtain ⟨n,h1,rfl,rfl⟩:=h;exact Local.len ho he h1
   split at h
   ·rename_i q hq
    simp only [Option.bind_eq_some_iff] at h;obtain ⟨p,hp,h⟩:=h;obtain ⟨hb,h⟩:=CF h;simp only [Option.some.injEq,Prod.mk.injEq] at h;obtain ⟨rfl,rfl⟩:=h;rw [Nat.beq_eq] at hb;exact Local.lenMap ho (d:=p.1) (z:=p.2) hp (rows:=q.2) (by rw [← hb];exact hq)
   obtain ⟨z,h1,rfl,rfl⟩:=Cr h;simp only [Option.bind_eq_some_iff] at h1;obtain ⟨l,h2,h3⟩:=h1;refine Local.scalar fun C E X a hr=>⟨Builtin.len_ #[t] 0 l.toArray,?_,h3⟩;have he:=GW hr h2;have hty:∀ ty xs,Builtin.len_ #[t] ty xs=Builtin.len_ #[t] 0 xs:=fun _ _=>rfl
   unfold execOp
   have hm:(#[x]:Array Operand).map a.eval=l.toArray:=by rw [← he];simp
   simp only [ho,resolve,invoke,builtin,pure_bind,hty o.type,hm]
  cases h
 case unsafeSliceData =>
  simp only [Bz] at h
  split at h
  ·rename_i x hx
   have hxe:as= #[x]:=by cases as;simp at hx;simp [hx]
   subst hxe
   unfold sdataAV at h
   split at h
   ·rename_i r lo n hev
    obtain ⟨hb,h⟩:=CF h;simp only [Option.some.injEq,Prod.mk.injEq] at h;obtain ⟨rfl,rfl⟩:=h;simp only [Bool.and_eq_true,Nat.beq_eq] at hb;obtain ⟨rfl,hb2⟩:=hb;have hn:0 < n:=Nat.le_of_ble_eq_true hb2;refine Local.value fun C E X a hr=>?_;have hv:=hr.ev x;rw [hev] at hv;simp only [FV] at hv;obtain ⟨hD,A0,n0,c0,A,c,hH,hxv,hnc,_,hA⟩:=hv;obtain ⟨a0,rfl,hs,rfl⟩:=hA hn;refine ⟨.pointer (some (a0.add (0 * E.Z r))),?_,?_⟩
    ·unfold execOp
     have hc:c≠0:=by omega
     simp only [ho,resolve,invoke,builtin,Sem.run_bind,Sem.run_pure,Result.andThen_ok,List.map_toArray,List.map_cons,List.map_nil,hxv,Go.Lib.run_unsafeSliceData_row (w:=E.w) ts _ _ _ _ hc]
    simp only [FV];exact ⟨hD,a0,by rw [hH];rfl,hs,by rw [Nat.add_zero]⟩
   ·rename_i hev
    simp only [Option.some.injEq,Prod.mk.injEq] at h;obtain ⟨rfl,rfl⟩:=h;refine Local.value fun C E X a hr=>⟨.pointer none,?_,by simp [FV]⟩;have hv:=hr.ev x;rw [hev] at hv;simp only [FV] at hv
    unfold execOp
    simp only [ho,resolve,invoke,builtin,Sem.run_bind,Sem.run_pure,Result.andThen_ok,List.map_toArray,List.map_cons,List.map_nil,hv,Go.Lib.run_unsafeSliceData_nil (w:=E.w) ts]
   cases h
  cases h
 case cap =>
  simp only [Bz] at h
  split at h
  ·rename_i x t hx ht
   have hxe:as= #[x]:=by cases as;simp at hx;simp [hx]
   have hte:ts= #[t]:=by cases ts;simp at ht;simp [ht]
   subst hxe hte
   split at h
   ·rename_i el he
    unfold capAV at h
    split at h
    ·rename_i hev
     simp only [Option.some.injEq,Prod.mk.injEq] at h;obtain ⟨rfl,rfl⟩:=h;have hund:=BL he;refine Local.value fun C E X a hr=>⟨.int .i64 0,?_,by simp [FV]⟩;have hv:=hr.ev x;rw [hev] at hv;simp only [FV] at hv
     have hrun:(Builtin.cap_ #[t] o.type #[.slice none 0 0]).run P E.w= .ok (.int .i64 0) E.w:=by
      simp [Builtin.cap_,run_underlying hund]
      rfl
     unfold execOp
     simp only [ho,resolve,invoke,builtin,Sem.run_bind,Sem.run_pure,Result.andThen_ok,List.map_toArray,List.map_cons,List.map_nil,hv,hrun]
    cases h
   cases h
  cases h
 case max =>
  simp only [Bz] at h;obtain ⟨z,h1,rfl,rfl⟩:=Cr h;simp only [Option.bind_eq_some_iff] at h1;obtain ⟨l,h2,h3⟩:=h1;refine Local.scalar fun C E X a hr=>⟨Builtin.max_ ts 0 l.toArray,?_,h3⟩;have he:=GW hr h2
  have hm:as.map a.eval=l.toArray:=by rw [← he];apply Array.ext';simp
  unfold execOp
  have hty:∀ ty xs,Builtin.max_ ts ty xs=Builtin.max_ ts 0 xs:=fun _ _=>rfl;simp only [ho,resolve,invoke,builtin,pure_bind,hm,hty o.type]
 case min =>
  simp only [Bz] at h;obtain ⟨z,h1,rfl,rfl⟩:=Cr h;simp only [Option.bind_eq_some_iff] at h1;obtain ⟨l,h2,h3⟩:=h1;refine Local.scalar fun C E X a hr=>⟨Builtin.min_ ts 0 l.toArray,?_,h3⟩;have he:=GW hr h2
  have hm:as.map a.eval=l.toArray:=by rw [← he];apply Array.ext';simp
  unfold execOp
  have hty:∀ ty xs,Builtin.min_ ts ty xs=Builtin.min_ ts 0 xs:=fun _ _=>rfl;simp only [ho,resolve,invoke,builtin,pure_bind,hm,hty o.type]
theorem EO {P:Program} {σ:St} {id:Nat} {o:Oper} {v:AV} {new:List (Nat × Obj)} (h:At P σ id o.op=some (v,new)):Local P σ o v new:=by
 generalize hop:o.op=op at h
 cases op <;> try (simp [At] at h;done)
 case move x =>
  simp only [At,Option.some.injEq,Prod.mk.injEq] at h;obtain ⟨rfl,rfl⟩:=h;exact Local.move (.inl hop)
 case assign x =>
  simp only [At,Option.some.injEq,Prod.mk.injEq] at h;obtain ⟨rfl,rfl⟩:=h;exact Local.move (.inr hop)
 case pick c x y =>
  simp only [At] at h
  split at h
  ·rename_i t hc
   simp only [Option.some.injEq,Prod.mk.injEq] at h;obtain ⟨rfl,rfl⟩:=h;exact Local.pick hop hc
  cases h
 case binOp op t x y yt =>
  simp only [At] at h
  split at h
  ·rename_i a b ha hb
   obtain ⟨z,h1,rfl,rfl⟩:=Cr h;refine Local.scalar fun C E X act hr=>⟨(do eqGuard op t x y a b;binOp op t a b),?_,h1⟩
   unfold execOp
   simp only [hop,Dl hr ha,Dl hr hb]
  cases h
 case unOp op t x =>
  simp only [At] at h;obtain ⟨z,h1,rfl,rfl⟩:=Cr h;simp only [Option.bind_eq_some_iff] at h1;obtain ⟨a,h2,h3⟩:=h1;refine Local.scalar fun C E X act hr=>⟨Op.unary op a,?_,h3⟩
  unfold execOp
  simp only [hop,Dl hr h2]
 case convert s d x =>
  simp only [At] at h;obtain ⟨z,h1,rfl,rfl⟩:=Cr h;simp only [Option.bind_eq_some_iff] at h1;obtain ⟨a,h2,h3⟩:=h1;refine Local.scalar fun C E X act hr=>⟨convert s d a,?_,h3⟩
  unfold execOp
  simp only [hop,Dl hr h2]
 case makeInterface t x =>
  simp only [At] at h;obtain ⟨z,h1,rfl,rfl⟩:=Cr h;simp only [Option.bind_eq_some_iff] at h1;obtain ⟨a,h2,h3⟩:=h1;refine Local.scalar fun C E X act hr=>⟨Instr.makeInterface t a,?_,h3⟩
  unfold execOp
  simp only [hop,Dl hr h2]
 case index t x i =>
  simp only [At] at h
  split at h
  ·rename_i a b ha hb
   obtain ⟨z,h1,rfl,rfl⟩:=Cr h;refine Local.scalar fun C E X act hr=>⟨Instr.index t a b,?_,h1⟩
   unfold execOp
   simp only [hop,Dl hr ha,Dl hr hb]
  cases h
 case load t x =>
  simp only [At] at h;obtain ⟨h1,rfl⟩:=BY h;exact Local.load hop h1
 case fieldAddr s x f =>
  simp only [At,Option.bind_eq_some_iff] at h;obtain ⟨⟨off,ty⟩,hf,h⟩:=h;obtain ⟨hb,h⟩:=E8 h;obtain ⟨h1,rfl⟩:=BY h;exact Local.fieldAddr hop hf (Dg hb) h1
 case field s x f =>
  simp only [At,Option.bind_eq_some_iff] at h;obtain ⟨⟨off,ty⟩,hf,h⟩:=h
  split at h
  ·rename_i cs hx
   obtain ⟨h1,rfl⟩:=BY h;exact Local.field hop hf hx h1
  cases h
 case indexAddr t x i =>
  simp only [At] at h
  split at h
  ·rename_i k n hi
   split at h
   ·rename_i e he
    obtain ⟨hb,h⟩:=E8 h;obtain ⟨h1,rfl⟩:=BY h;exact Local.indexAddr hop he hi (Dg hb) h1
   obtain ⟨h1,rfl⟩:=BY h;simp only [QI,Option.bind_eq_some_iff] at h1;obtain ⟨⟨m,e⟩,ha,h1⟩:=h1;obtain ⟨hb,h1⟩:=E8 h1
   split at h1
   ·rename_i hlt
    exact Local.indexArr hop (KT ha) hi hlt (Dg hb) h1
   cases h1
  cases h
 case slice t x lo hi mx =>
  cases mx with
  |some m=>simp [At] at h
  |none =>
   simp only [At] at h
   split at h
   ·rename_i e he
    obtain ⟨hb,h⟩:=E8 h;simp only [Option.bind_eq_some_iff] at h;obtain ⟨n,hn,l,hl,hh,hhi,h⟩:=h
    split at h
    ·rename_i r a b hx
     simp only [Option.bind_eq_some_iff] at h;obtain ⟨ob,hob,h⟩:=h;obtain ⟨hz,h⟩:=CF h;obtain ⟨h1,rfl⟩:=BY h;rw [Nat.beq_eq] at hz;refine Local.slice hop he (Dg hb) hn hl hhi (fun r' a' b' e'=>?_) (fun s rows e'=>?_) (by rw [hx];exact h1)
     ·rw [hx] at e';simp only [AV.als.injEq] at e';obtain ⟨rfl,_,_⟩:=e';exact ⟨ob,hob,hz⟩
     rw [hx] at e';cases e'
    ·rename_i s rows hx
     obtain ⟨hz,h⟩:=CF h;obtain ⟨h1,rfl⟩:=BY h;rw [Nat.beq_eq] at hz;refine Local.slice hop he (Dg hb) hn hl hhi (fun r' a' b' e'=>?_) (fun s' rows' e'=>?_) (by rw [hx];exact h1)
     ·rw [hx] at e';cases e'
     rw [hx] at e';simp only [AV.sh.injEq] at e';rw [← e'.1,hz]
    cases h
   split at h
   ·rename_i a l hh ha hl hhi
    obtain ⟨z,h1,rfl,rfl⟩:=Cr h;refine Local.scalar fun C E X act hr=>⟨Instr.sliceAt t a l hh none,?_,h1⟩
    unfold execOp
    simp only [hop,Dl hr ha,Nk hr hl,Nk hr hhi,Option.map_none]
   cases h
 case alloc t =>
  simp only [At,Option.map_eq_some_iff,Prod.mk.injEq] at h;obtain ⟨cs,h1,rfl,rfl⟩:=h;exact Local.alloc1 hop h1
 case box t x =>
  simp only [At,Option.map_eq_some_iff,Prod.mk.injEq] at h;obtain ⟨cs,h1,rfl,rfl⟩:=h;exact Local.box hop h1
 case build t parts =>
  simp only [At,Option.bind_eq_some_iff] at h;obtain ⟨zs,hz,pl,hpl,h⟩:=h;obtain ⟨h1,rfl⟩:=BY h;simp only [Option.map_eq_some_iff] at h1;obtain ⟨cs,h2,rfl⟩:=h1;exact Local.build hop hz (Ry hpl) h2
 case buildSlice t len parts =>
  simp only [At,Option.bind_eq_some_iff] at h;obtain ⟨e,he,zs,hz,rows,hrows,h⟩:=h;obtain ⟨hb,h⟩:=CF h;simp only [Option.some.injEq,Prod.mk.injEq] at h;obtain ⟨rfl,rfl⟩:=h;simp only [Bool.and_eq_true,Nat.beq_eq,Bool.not_eq_true'] at hb;obtain ⟨⟨⟨hb1,hb2⟩,hb3⟩,hb4⟩:=hb;exact Local.buildSlice hop he hz hb1 (Dg hb2) hrows hb3 (CG hb4)
 case makeSlice t x y =>
  simp only [At] at h
  split at h
  ·rename_i k1 m k2 m' hx hy
   simp only [Option.bind_eq_some_iff] at h;obtain ⟨e,he,zs,hz,h⟩:=h;obtain ⟨hb,h⟩:=CF h;simp only [Option.some.injEq,Prod.mk.injEq] at h;obtain ⟨rfl,rfl⟩:=h;obtain ⟨h1,h2,h3,h4,h5,h6,h7⟩:=of_decide_eq_true hb;subst h1
   have hm:m'=((m'.toNat:Nat):Int):=by omega
   exact Local.makeSlice (k1:=k1) (k2:=k2) hop he hz h4 h5 rfl (by rw [← hm];exact hx) (by rw [← hm];exact hy) (by omega) h6 (by omega)
  cases h
 case makeFunc f first caps =>
  simp only [At,Option.some.injEq,Prod.mk.injEq] at h;obtain ⟨rfl,rfl⟩:=h;exact Local.makeFunc hop
 case extract x k =>
  simp only [At] at h
  split at h
  ·rename_i vs hx
   obtain ⟨h1,rfl⟩:=BY h;exact Local.extract hop hx h1
  cases h
 case nilCheck x =>
  simp only [At] at h
  split at h
  ·rename_i r i j hx
   simp only [Option.some.injEq,Prod.mk.injEq] at h;obtain ⟨rfl,rfl⟩:=h;have:=Local.nilCheck (P:=P) hop (.inl ⟨r,i,j,hx⟩)
   rwa [hx] at this
  ·rename_i row j hx
   simp only [Option.some.injEq,Prod.mk.injEq] at h;obtain ⟨rfl,rfl⟩:=h;have:=Local.nilCheck (P:=P) hop (.inr ⟨row,j,hx⟩)
   rwa [hx] at this
  cases h
 case call c =>
  obtain ⟨callee,as,ts⟩:=c
  cases callee <;> try (simp [At] at h;done)
  case builtin b =>
   simp only [At] at h;exact K5 hop h
 case makeMap t res =>
  cases res with
  |some x=>simp [At] at h
  |none =>
   simp only [At,Option.map_eq_some_iff,Prod.mk.injEq] at h;obtain ⟨p,h1,rfl,rfl⟩:=h;exact Local.makeMap hop
 case lookup t x i ok =>
  simp only [At,Option.bind_eq_some_iff] at h;obtain ⟨⟨d,z⟩,h1,⟨sz,rows⟩,h2,k,h3,h⟩:=h;obtain ⟨hb,h⟩:=CF h;simp only [Bool.and_eq_true,Nat.beq_eq] at hb;simp only [Option.bind_eq_some_iff] at h;obtain ⟨r,h4,h⟩:=h;obtain ⟨h5,rfl⟩:=BY h;obtain ⟨rfl,hb2⟩:=hb;exact Local.lookup hop h1 h2 h3 hb2 h4 h5
 case range t x =>
  simp only [At] at h
  split at h
  ·rename_i sz rows hx
   simp only [Option.map_eq_some_iff,Prod.mk.injEq] at h;obtain ⟨p,h1,rfl,rfl⟩:=h;exact Local.range hop h1 hx
  cases h
 case entry x =>
  simp only [At,Option.bind_eq_some_iff] at h;obtain ⟨⟨k,vs⟩,h1,h⟩:=h;obtain ⟨h2,rfl⟩:=BY h;simp only [Option.map_eq_some_iff] at h2;obtain ⟨u,h3,rfl⟩:=h2;exact Local.entry hop h1 h3
def Je (P:Program) (σ:St) (dst:Option Nat) (x y:AV) (t:TypeId):Option St :=
 (A9 P t).bind fun e=>(AK P e).bind fun zs=>(Fj σ e (P.cellsOf e) x).bind fun h=>(IW σ y).bind fun q =>
   bif Nat.beq zs.length (P.cellsOf e) && !Nat.beq (P.cellsOf e) 0 && Nat.beq q.1 (P.cellsOf e) && Nat.ble ((h.2.1.length+q.2.1.length) * P.bytesOf e) 140737488355328 && Nat.ble (h.2.1.length+q.2.1.length) 140737488355328 then
    some ({ σ with objs:=(σ.next,⟨true,e,P.cellsOf e,h.2.1 ++ q.2.1,h.2.2 && q.2.2⟩) :: σ.drop1 h.1,next:=σ.next+1 }.put dst (.als σ.next 0 (h.2.1.length+q.2.1.length)))
    else none
def Gc (σ:St):AV→Bool
 |.als r lo m=>match Al σ.objs r with
  |some o=>Nat.ble (lo+m) o.rows.length
  |none=>true
 |_=>true
theorem Pz {σ:St} {v:AV} (h:Gc σ v=true):∀ r lo m ob,v= .als r lo m→Al σ.objs r=some ob→lo+m≤ob.rows.length:=by
 rintro r lo m ob rfl hob;simp only [Gc,hob] at h;exact Nat.le_of_ble_eq_true h
theorem Ms {P:Program} {σ σ':St} {o:Oper} {x y:Operand} {t:TypeId} (ho:o.op= .call { callee:= .builtin .append,args:= #[x,y],argTypes:= #[t,t] }) (hd:∀ d,o.dst=some d→d < σ.nt)
 (h:Je P σ o.dst (σ.ev x) (σ.ev y) t=some σ') (hw:Gc σ (σ.ev y)=true):Writer P σ o σ':=by
 simp only [Je,Option.bind_eq_some_iff] at h;obtain ⟨e,he,zs,hz,⟨h0,rows1,c1⟩,hh,⟨s,rows2,c2⟩,hq,h⟩:=h;obtain ⟨hb,h⟩:=CF h;simp only [Bool.and_eq_true,Nat.beq_eq,Bool.not_eq_true'] at hb;obtain ⟨⟨⟨⟨hb1,hb2⟩,hb3⟩,hb4⟩,hb5⟩:=hb;simp only [Option.some.injEq] at h;subst h;subst hb3;obtain ⟨i,z,hi,_⟩:=Ca hz
 have hml:(140737488355328:Nat)≤maxLen:=by decide
 refine Writer.append ho he hz hb1 (Dg hb2) hi hh hq (Pz hw) ?_ (Nat.le_trans (CG hb5) hml) hd
 have:P.bytesOf e=i.bytes:=by simp [Program.bytesOf,hi]
 rw [← this];exact CG hb4
def H1 (P:Program) (σ:St) (dst:Option Nat) (as:Array Operand) (ts:Array TypeId):Option St :=
 match as.toList,ts.toList with
 |[x,y],[t,u]=>bif Nat.beq t u && Gc σ (σ.ev y) then Je P σ dst (σ.ev x) (σ.ev y) t else none
 |_,_=>none
theorem Lj {P:Program} {σ σ':St} {o:Oper} {as:Array Operand} {ts:Array TypeId} (ho:o.op= .call { callee:= .builtin .append,args:=as,argTypes:=ts }) (hd:∀ d,o.dst=some d→d < σ.nt)
 (h:H1 P σ o.dst as ts=some σ'):Writer P σ o σ':=by
 unfold H1 at h
 split at h
 ·rename_i x y t u h1 h2
  obtain ⟨hb,h'⟩:=CF h;simp only [Bool.and_eq_true,Nat.beq_eq] at hb;obtain ⟨rfl,hb⟩:=hb
  have e1:as= #[x,y]:=by cases as;simp at h1;simp [h1]
  have e2:ts= #[t,t]:=by cases ts;simp at h2;simp [h2]
  subst e1 e2;exact Ms ho hd h' hb
 cases h
def NW (P:Program) (σ:St) (o:Oper):Option St :=
 match o.op with
 |.store t x y=>bif (P.info? t).isSome then (IY P σ t (σ.ev x) (σ.ev y)).map fun σ'=>σ'.put o.dst .top else none
 |.call { callee:= .builtin .append,args:=as,argTypes:=ts }=>H1 P σ o.dst as ts
 |op=>match At P σ σ.next op with
  |some (v,new)=>some (σ.ext o.dst v new (σ.next+new.length))
  |none=>none
def QV (σ:St):Option Nat→Bool
 |none=>true
 |some d=>Nat.blt d σ.nt
theorem Jh {σ:St} {x:Option Nat} (h:QV σ x=true):∀ d,x=some d→d < σ.nt:=by
 rintro d rfl;exact Nat.le_of_ble_eq_true h
theorem I3 {P:Program} {σ:St} {op:Op} {v:AV} {new:List (Nat × Obj)} {id:Nat} (h:At P σ id op=some (v,new)):new=[]∨∃ ob,new=[(id,ob)]:=by
 cases op <;> try (simp [At] at h;done)
 case makeMap t res =>
  cases res with
  |some x=>simp [At] at h
  |none =>
   simp only [At,Option.map_eq_some_iff,Prod.mk.injEq] at h;obtain ⟨p,h1,rfl,rfl⟩:=h;exact .inr ⟨_,rfl⟩
 case lookup t x i ok =>
  simp only [At,Option.bind_eq_some_iff] at h;obtain ⟨⟨d,z⟩,h1,⟨sz,rows⟩,h2,k,h3,h⟩:=h;obtain ⟨hb,h⟩:=CF h;simp only [Option.bind_eq_some_iff] at h;obtain ⟨r,h4,h⟩:=h;exact .inl (BY h).2
 case entry x =>
  simp only [At,Option.bind_eq_some_iff] at h;obtain ⟨⟨k,vs⟩,h1,h⟩:=h;exact .inl (BY h).2
 case range t x =>
  simp only [At] at h
  split at h
  ·simp only [Option.map_eq_some_iff,Prod.mk.injEq] at h;obtain ⟨p,h1,rfl,rfl⟩:=h;exact .inr ⟨_,rfl⟩
  cases h
 case alloc t =>
  simp only [At,Option.map_eq_some_iff,Prod.mk.injEq] at h;obtain ⟨cs,h1,rfl,rfl⟩:=h;exact .inr ⟨_,rfl⟩
 case box t x =>
  simp only [At,Option.map_eq_some_iff,Prod.mk.injEq] at h;obtain ⟨cs,h1,rfl,rfl⟩:=h;exact .inr ⟨_,rfl⟩
 case buildSlice t len parts =>
  simp only [At,Option.bind_eq_some_iff] at h;obtain ⟨e,he,zs,hz,rows,hrows,h⟩:=h;obtain ⟨hb,h⟩:=CF h;simp only [Option.some.injEq,Prod.mk.injEq] at h;obtain ⟨rfl,rfl⟩:=h;exact .inr ⟨_,rfl⟩
 case makeSlice t x y =>
  simp only [At] at h
  split at h
  ·simp only [Option.bind_eq_some_iff] at h;obtain ⟨e,he,zs,hz,h⟩:=h;obtain ⟨hb,h⟩:=CF h;simp only [Option.some.injEq,Prod.mk.injEq] at h;obtain ⟨rfl,rfl⟩:=h;exact .inr ⟨_,rfl⟩
  cases h
 case slice t x lo hi mx =>
  left
  cases mx with
  |some m=>simp [At] at h
  |none =>
   simp only [At] at h
   split at h
   ·obtain ⟨_,h⟩:=E8 h;simp only [Option.bind_eq_some_iff] at h;obtain ⟨n,hn,l,hl,hh,hhi,h⟩:=h
    split at h
    ·simp only [Option.bind_eq_some_iff] at h;obtain ⟨ob,hob,h⟩:=h;exact (BY (CF h).2).2
    ·exact (BY (CF h).2).2
    cases h
   split at h
   ·exact (Cr h).choose_spec.2.2
   cases h
 case call c =>
  obtain ⟨callee,as,ts⟩:=c
  cases callee <;> try (simp [At] at h;done)
  case builtin b =>
   left
   simp only [At] at h
   cases b <;> try (simp [Bz] at h;done)
   case len =>
    simp only [Bz] at h
    split at h
    ·split at h
     ·simp only [Option.map_eq_some_iff,Prod.mk.injEq] at h;obtain ⟨n,h1,_,rfl⟩:=h;rfl
     split at h
     ·simp only [Option.bind_eq_some_iff] at h;obtain ⟨p,_,h⟩:=h;have:=(CF h).2;simp only [Option.some.injEq,Prod.mk.injEq] at this;exact this.2.symm
     exact (Cr h).choose_spec.2.2
    cases h
   case unsafeSliceData =>
    simp only [Bz] at h
    split at h
    ·unfold sdataAV at h
     split at h
     ·have:=(CF h).2;simp only [Option.some.injEq,Prod.mk.injEq] at this;exact this.2.symm
     ·simp only [Option.some.injEq,Prod.mk.injEq] at h;exact h.2.symm
     cases h
    cases h
   case cap =>
    simp only [Bz] at h
    split at h
    ·split at h
     ·unfold capAV at h
      split at h
      ·simp only [Option.some.injEq,Prod.mk.injEq] at h;exact h.2.symm
      cases h
     cases h
    cases h
   case max=>simp only [Bz] at h;exact (Cr h).choose_spec.2.2
   case min=>simp only [Bz] at h;exact (Cr h).choose_spec.2.2
 all_goals left
 all_goals simp only [At] at h
 all_goals first
  |exact (Cr h).choose_spec.2.2
  |exact (BY h).2
  |(simp only [Option.some.injEq,Prod.mk.injEq] at h;exact h.2.symm)
  |(simp only [Option.bind_eq_some_iff] at h;obtain ⟨_,_,h⟩:=h;exact (BY (E8 h).2).2)
  |(simp only [Option.bind_eq_some_iff] at h;obtain ⟨_,_,_,_,h⟩:=h;exact (BY h).2)
  |(simp only [Option.bind_eq_some_iff] at h;obtain ⟨_,_,h⟩:=h;split at h <;> first | exact (BY h).2 | cases h)
  |(split at h <;> (first | (cases h;done) | exact (Cr h).choose_spec.2.2 | exact (BY h).2 | (simp only [Option.some.injEq,Prod.mk.injEq] at h;exact h.2.symm) | (split at h <;> first | exact (BY (E8 h).2).2 | exact (BY h).2)))
theorem KK {P:Program} {σ σ':St} {o:Oper} (hd:QV σ o.dst=true) (h:NW P σ o=some σ'):Writer P σ o σ':=by
 unfold NW at h
 split at h
 ·rename_i t x y hop
  obtain ⟨hi,h⟩:=CF h;simp only [Option.map_eq_some_iff] at h;obtain ⟨σ1,h1,rfl⟩:=h;exact Writer.store hop (Option.isSome_iff_exists.1 hi) (Jh hd) h1
 ·rename_i as ts hop
  exact Lj hop (Jh hd) h
 split at h
 ·rename_i v new hq
  simp only [Option.some.injEq] at h;subst h;refine Writer.of_local (EO hq) (Jh hd) ?_ (by omega)
  rcases I3 hq with rfl | ⟨ob,rfl⟩
  ·intro r ob hf;simp [Al] at hf
  intro r ob' hf;rw [A8] at hf
  split at hf
  ·simp;omega
  simp [Al] at hf
 cases h
end Go.AM
namespace Go.AM
theorem VC (m n:Nat):Nat.beq m n=decide (m=n):=by
 by_cases h:m=n
 ·subst h;simp [Nat.beq_refl]
 cases hb:Nat.beq m n
 ·simp [h]
 rw [Nat.beq_eq] at hb;exact absurd hb h
theorem VI (m n:Nat):Nat.ble m n=decide (m≤n):=by
 by_cases h:m≤n
 ·simp [h,Nat.ble_eq]
 cases hb:Nat.ble m n
 ·simp [h]
 exact absurd (Nat.le_of_ble_eq_true hb) h
theorem Ua {α:Type} (k:Nat) (v:α) (l:List (Nat × α)) (n:Nat):Ct ((k,v) :: l) n=if k=n then Ct l n else (k,v) :: Ct l n:=by
 simp only [Ct,VC]
 by_cases h:k=n <;> simp [h]
theorem BJ {P:Program} {t:TypeId} {d:TypeDesc} (h:P.underlying t=some d):Br P (underlying t)=some d:=by
 simp only [underlying,Bb];have:Br P program=some P:=rfl;rw [this,Option.bind_some,h];rfl
section
variable (P:Program) (t:TypeId) (x y:Operand) (k:IntKind) (a b:Int)
theorem bin_add:De P .add t x y (.int k a) (.int k b)=some (.int k (k.wrap (a+b))):=by simp [De,Bb,eqGuard,binOp,Op.intArith,Bj]
theorem bin_sub:De P .sub t x y (.int k a) (.int k b)=some (.int k (k.wrap (a - b))):=by simp [De,Bb,eqGuard,binOp,Op.intArith,Bj]
theorem bin_mul:De P .mul t x y (.int k a) (.int k b)=some (.int k (k.wrap (a * b))):=by simp [De,Bb,eqGuard,binOp,Op.intArith,Bj]
theorem VE (h:b≠0):De P .quo t x y (.int k a) (.int k b)=some (.int k (k.wrap (a.tdiv b))):=by simp [De,Bb,eqGuard,binOp,Op.intDiv,Bj,h]
theorem VF (h:b≠0):De P .rem t x y (.int k a) (.int k b)=some (.int k (a.tmod b)):=by simp [De,Bb,eqGuard,binOp,Op.intDiv,Bj,h]
theorem bin_eql:De P .eql t x y (.int k a) (.int k b)=some (.bool (decide (a=b))):=by
 simp [De,Bb,eqGuard_at_int,binOp,Op.intCmp,Bj]
 rfl
theorem bin_neq:De P .neq t x y (.int k a) (.int k b)=some (.bool (!decide (a=b))):=by
 simp [De,Bb,eqGuard_at_int,binOp,Op.intCmp,Bj]
 rfl
theorem bin_lss:De P .lss t x y (.int k a) (.int k b)=some (.bool (decide (a < b))):=by simp [De,Bb,eqGuard,binOp,Op.intCmp,Bj]
theorem bin_leq:De P .leq t x y (.int k a) (.int k b)=some (.bool (decide (a≤b))):=by simp [De,Bb,eqGuard,binOp,Op.intCmp,Bj]
theorem bin_gtr:De P .gtr t x y (.int k a) (.int k b)=some (.bool (decide (b < a))):=by simp [De,Bb,eqGuard,binOp,Op.intCmp,Bj]
theorem bin_geq:De P .geq t x y (.int k a) (.int k b)=some (.bool (decide (b≤a))):=by simp [De,Bb,eqGuard,binOp,Op.intCmp,Bj]
theorem Wv (c:Bool):X5 P .not (.bool c)=some (.bool (!c)):=rfl
theorem una_neg:X5 P .neg (.int k a)=some (.int k (k.wrap (0 - a))):=rfl
theorem Uu (ts:Array TypeId):OI P ts [.int k a, .int k b]=some (.int k (max a b)):=by
 have:(if b > a then b else a)=max a b:=by rw [Int.max_def];split <;> split <;> omega
 simp [OI,Builtin.max_,Builtin.max2,Bb,Bj,this]
theorem Uv (ts:Array TypeId):OJ P ts [.int k a, .int k b]=some (.int k (min a b)):=by
 have:(if b < a then b else a)=min a b:=by rw [Int.min_def];split <;> split <;> omega
 simp [OJ,Builtin.min_,Builtin.min2,Bb,Bj,this]
theorem TY (s d:TypeId) (k':IntKind) (hd:P.underlying d=some (.int k')) (hs:(P.underlying s).isSome=true):conv P s d (.int k a)=some (.int k' (k'.wrap a)):=by
 obtain ⟨u,hu⟩:=Option.isSome_iff_exists.1 hs;have h1:=BJ hu;have h2:=BJ hd;simp only [conv,convert,Bb,h1,h2,Option.bind_some]
 cases u <;> rfl
end
theorem G7 {x:Int} (h: -9223372036854775808≤x) (h':x≤9223372036854775807):IntKind.i64.wrap x=x:=by
 have e:IntKind.i64.wrap x=if x % 18446744073709551616 ≥ 9223372036854775808 then x % 18446744073709551616 - 18446744073709551616 else x % 18446744073709551616:=by
  simp [IntKind.wrap,IntKind.bits,IntKind.signed]
 rw [e]
 split <;> omega
theorem Wn {a b:Int} (h:0≤a):a.tdiv b=a / b:=Int.tdiv_eq_ediv_of_nonneg h
theorem Wt {a b:Int} (h:0≤a):a.tmod b=a % b:=Int.tmod_eq_emod_of_nonneg h
theorem Fun.of {P:Program} {f:FuncId} {fn:Func} {c:Code} {args:List AV} {Post:AV→List (Nat × Obj)→Prop} {nt:Nat} {rs:List ResultVar} (hf:P.funcs[f]?= some fn) (hb:fn.body=some c) (ht:fn.ntmps=nt)
 (hr:fn.results.toList=rs) (hnm:(fn.name == "runtime.NumGoroutine")=false) (hn:Nat.ble args.length nt=true) (h:Ev P c ⟨argSlots 0 args,[],0,nt,0⟩ (Fg P rs Post)):Fun P f args Post :=
 Fun.of_body hf hb hnm (by rw [ht];exact CG hn) (by rw [ht,hr];exact h)
end Go.AM
namespace Go.AM
structure Res where
 dst:Nat
 v:AV
 new:List (Nat × Obj)
def slotsM:List Bool→List Res→List (Nat × AV)
 |b :: bs,r :: rs=>bif b then (r.dst,r.v) :: slotsM bs rs else slotsM bs rs
 |_,_=>[]
def objsM:List Bool→List Res→List (Nat × Obj)
 |b :: bs,r :: rs=>bif b then r.new ++ objsM bs rs else objsM bs rs
 |_,_=>[]
def I9 (ds:List Nat):List (Nat × AV)→List (Nat × AV)
 |[]=>[]
 |p :: l=>bif ds.elem p.1 then I9 ds l else p :: I9 ds l
def C5 (σ:St) (ds:List Nat) (nx:Nat) (bs:List Bool) (R:List Res):St :=
 { slots:=slotsM bs R ++ I9 ds σ.slots,objs:=objsM bs R ++ σ.objs,next:=nx,nt:=σ.nt,env:=σ.env }
theorem find_slotsM:∀ (bs:List Bool) (R:List Res) (s:Nat) (v:AV),Al (slotsM bs R) s=some v→∃ (j:Nat) (r:Res),bs[j]?= some true∧R[j]?= some r∧r.dst=s∧r.v=v
 |[],R,s,v,h=>by cases R <;> simp [slotsM,Al] at h
 |b :: bs,[],s,v,h=>by simp [slotsM,Al] at h
 |b :: bs,r :: R,s,v,h=>by
  simp only [slotsM] at h
  cases b with
  |false =>
   obtain ⟨j,r',h1,h2,h3,h4⟩:=find_slotsM bs R s v (by simpa using h);exact ⟨j+1,r',by simpa using h1,by simpa using h2,h3,h4⟩
  |true =>
   simp only [cond_true] at h;rw [A8] at h
   split at h
   ·rename_i e
    simp only [Option.some.injEq] at h;exact ⟨0,r,rfl,rfl,e,h⟩
   ·obtain ⟨j,r',h1,h2,h3,h4⟩:=find_slotsM bs R s v h;exact ⟨j+1,r',by simpa using h1,by simpa using h2,h3,h4⟩
theorem slotsM_find:∀ (bs:List Bool) (R:List Res) (j:Nat) (r:Res),(R.map (·.dst)).Nodup→bs[j]?= some true→R[j]?= some r→Al (slotsM bs R) r.dst=some r.v
 |[],R,j,r,_,h,_=>by simp at h
 |b :: bs,[],j,r,_,_,h=>by simp at h
 |b :: bs,r0 :: R,j,r,hn,hb,hr=>by
  simp only [List.map_cons,List.nodup_cons] at hn;simp only [slotsM]
  cases j with
  |zero =>
   simp at hb hr
   subst hb hr;simp only [cond_true];rw [A8,if_pos rfl]
  |succ j =>
   have ih:=slotsM_find bs R j r hn.2 (by simpa using hb) (by simpa using hr)
   have hne:r0.dst≠r.dst:=by
    intro e
    apply hn.1
    rw [e];exact List.mem_map.2 ⟨r,List.mem_of_getElem? (by simpa using hr),rfl⟩
   cases b with
   |false=>simpa using ih
   |true =>
    simp only [cond_true];rw [A8,if_neg hne];exact ih
theorem find_objsM:∀ (bs:List Bool) (R:List Res) (k:Nat) (o:Obj),Al (objsM bs R) k=some o→∃ (j:Nat) (r:Res),bs[j]?= some true∧R[j]?= some r∧Al r.new k=some o
 |[],R,k,o,h=>by cases R <;> simp [objsM,Al] at h
 |b :: bs,[],k,o,h=>by simp [objsM,Al] at h
 |b :: bs,r :: R,k,o,h=>by
  simp only [objsM] at h
  cases b with
  |false =>
   obtain ⟨j,r',h1,h2,h3⟩:=find_objsM bs R k o (by simpa using h);exact ⟨j+1,r',by simpa using h1,by simpa using h2,h3⟩
  |true =>
   simp only [cond_true] at h;rw [AZ] at h
   cases hf:Al r.new k with
   |some o' =>
    rw [hf] at h;simp only [Option.some_or,Option.some.injEq] at h;exact ⟨0,r,rfl,rfl,by rw [hf,h]⟩
   |none =>
    rw [hf] at h;obtain ⟨j,r',h1,h2,h3⟩:=find_objsM bs R k o (by simpa using h);exact ⟨j+1,r',by simpa using h1,by simpa using h2,h3⟩
theorem Gq (N:Nat):∀ (bs:List Bool) (R:List Res) (i j:Nat) (r:Res) (k:Nat) (o:Obj),(∀ m q,R[m]?= some q→∀ k o,Al q.new k=some o→N+4 * (i+m)≤k∧k < N+4 * (i+m)+4) →
 bs[j]?= some true→R[j]?= some r→Al r.new k=some o→Al (objsM bs R) k=some o
 |[],R,i,j,r,k,o,_,h,_,_=>by simp at h
 |b :: bs,[],i,j,r,k,o,_,_,h,_=>by simp at h
 |b :: bs,r0 :: R,i,j,r,k,o,hn,hb,hr,hf=>by
  simp only [objsM]
  cases j with
  |zero =>
   simp at hb hr
   subst hb hr;simp only [cond_true];rw [AZ,hf];rfl
  |succ j =>
   have ih:=Gq N bs R (i+1) j r k o (fun m q hq k o hf=>by have:=hn (m+1) q (by simpa using hq) k o hf;omega) (by simpa using hb) (by simpa using hr) hf
   cases b with
   |false=>simpa using ih
   |true =>
    simp only [cond_true];rw [AZ]
    have:Al r0.new k=none:=by
     cases h0:Al r0.new k with
     |none=>rfl
     |some o' =>
      exfalso
      have h1:=hn 0 r0 rfl k o' h0;have h2:=hn (j+1) r (by simpa using hr) k o hf;omega
    rw [this]
    simpa using ih
theorem Fi (ds:List Nat):∀ (l:List (Nat × AV)) (s:Nat),Al (I9 ds l) s=if s ∈ ds then none else Al l s
 |[],s=>by simp [I9,Al]
 |(k,v) :: l,s=>by
  simp only [I9]
  cases he:ds.elem k with
  |true =>
   have hk:k ∈ ds:=by simpa using he
   simp only [cond_true];rw [Fi ds l s,A8]
   by_cases e:k=s
   ·subst e;simp [hk]
   ·simp [e]
  |false =>
   have hk:¬ k ∈ ds:=by simpa using he
   simp only [cond_false];rw [A8,Fi ds l s,A8]
   by_cases e:k=s
   ·subst e;simp [hk]
   ·simp [e]
def Hw (o:Oper):List Nat:=(o.after.toList.filter (Region.binds .any)).map (·.on)
def DO (T:List (List Bool)) (i j:Nat):Bool:=((T[i]?).getD []).getD j false
def JE (l:List Oper) (T:List (List Bool)) (K:Nat):Bool :=
 (List.range l.length).all fun i=>match l[i]? with
   |none=>true
   |some o=>Nat.ble ((T[i]?).getD []).length i && (Hw o).all (fun e=>Nat.blt e i) && (List.range i).all fun j=>(!(DO T i j) || (Hw o).any fun e=>Nat.beq e j || (Nat.blt j e && DO T e j)) && (Nat.blt i K || DO T i j)
theorem DB {l:List Oper} {T:List (List Bool)} {K:Nat} (h:JE l T K=true) {i:Nat} {o:Oper} (hi:l[i]?= some o) :
 ((T[i]?).getD []).length≤i∧(∀ e ∈ Hw o,e < i)∧∀ j,j < i→(DO T i j=true→∃ e ∈ Hw o,e=j∨(j < e∧DO T e j=true))∧(K≤i→DO T i j=true):=by
 unfold JE at h
 rw [List.all_eq_true] at h;have hlt:i < l.length:=(List.getElem?_eq_some_iff.1 hi).1;have:=h i (by simpa using hlt);simp only [hi,Bool.and_eq_true,List.all_eq_true] at this;refine ⟨CG this.1.1,fun e he=>Nat.le_of_ble_eq_true (this.1.2 e he),fun j hj=>?_⟩;have hj':=this.2 j (by simpa using hj);simp only [Bool.or_eq_true,Bool.not_eq_true',List.any_eq_true] at hj';refine ⟨fun hb=>?_,fun hK=>?_⟩
 ·rcases hj'.1 with h0 | ⟨e,he,h1⟩
  ·rw [hb] at h0;cases h0
  refine ⟨e,he,h1.imp (fun h=>by rwa [Nat.beq_eq] at h) (fun h=>?_)⟩;rw [Bool.and_eq_true] at h;exact ⟨Nat.le_of_ble_eq_true h.1,h.2⟩
 rcases hj'.2 with h0 | h0
 ·have:=Nat.le_of_ble_eq_true h0;omega
 exact h0
def Lq (P:Program) (l:List Oper) (σ:St) (ds:List Nat) (nx K:Nat) (T:List (List Bool)) (R:List Res) (i:Nat):Prop :=
 ∀ o r,l[i]?= some o→R[i]?= some r→o.dst=some r.dst∧r.dst < σ.nt∧(∀ k ob,Al r.new k=some ob→σ.next+4 * i≤k∧k < σ.next+4 * i+4) ∧
  ((AL (AU ⟨l⟩) (C5 σ ds nx ((T[i]?).getD []) R) o.guard=some true∧Local P (C5 σ ds nx ((T[i]?).getD []) R) o r.v r.new) ∨
   (AL (AU ⟨l⟩) (C5 σ ds nx ((T[i]?).getD []) R) o.guard=some false∧r.v=(.lit undef)∧r.new=[]))
theorem Hr {listed:Array Bool} {n i:Nat} (hn:listed.size=n) (hi:i < n) (hf:listed.getD i true=false) :
 (List.range n).countP (fun j=> !(listed.setIfInBounds i true).getD j true)+1=(List.range n).countP (fun j=> !listed.getD j true):=by
 have key:∀ (m:Nat),m≤n→(List.range m).countP (fun j=> !(listed.setIfInBounds i true).getD j true)+(if i < m then 1 else 0)=(List.range m).countP (fun j=> !listed.getD j true):=by
  intro m
  induction m with
  |zero=>intro _;simp
  |succ m ih =>
   intro hm;have:=ih (by omega);rw [List.range_succ,List.countP_append,List.countP_append];simp only [List.countP_singleton]
   have hms:m < listed.size:=by omega
   by_cases e:i=m
   ·subst e
    have h1:(listed.setIfInBounds i true).getD i true=true:=by simp [Array.getD,hms]
    rw [h1,hf,if_pos (Nat.lt_succ_self i)];rw [if_neg (Nat.lt_irrefl i)] at this;simp only [Bool.not_true,Bool.not_false,Bool.false_eq_true,if_false,if_true];omega
   have h1:(listed.setIfInBounds i true).getD m true=listed.getD m true:=by simp [Array.getD,hms,e]
   rw [h1]
   by_cases c:i < m
   ·rw [if_pos c] at this;rw [if_pos (show i < m+1 by omega)];omega
   rw [if_neg c] at this;rw [if_neg (show ¬ i < m+1 by omega)];omega
 have:=key n (Nat.le_refl _);rw [if_pos hi] at this;exact this
section draw
variable {P:Program} {l:List Oper} {T:List (List Bool)} {K:Nat}
theorem Fm {listed:Array Bool} {i:Nat}:i ∈ Region.ready .any ⟨l⟩ listed↔∃ o,l[i]?= some o∧listed.getD i true=false∧∀ e ∈ Hw o,listed.getD e false=true:=by
 unfold Region.ready Hw
 simp only [List.mem_filter,List.mem_range,Bool.and_eq_true,Bool.not_eq_true']
 constructor
 ·rintro ⟨hlt,h1,h2⟩
  have hlt':i < l.length:=by simpa using hlt
  have hi:l[i]?= some l[i]:=List.getElem?_eq_getElem hlt';refine ⟨l[i],hi,h1,?_⟩
  have hi':(⟨l⟩:Array Oper)[i]?= some l[i]:=by simpa using hi
  rw [hi'] at h2;simp only [Option.map_some,Option.getD_some] at h2;rw [← Array.all_toList,List.all_eq_true] at h2;intro e he;simp only [List.mem_map,List.mem_filter] at he;obtain ⟨ed,⟨hm,hb⟩,rfl⟩:=he;have:=h2 ed hm
  simpa [hb] using this
 rintro ⟨o,hi,h1,h2⟩;have hlt:i < l.length:=(List.getElem?_eq_some_iff.1 hi).1;refine ⟨by simpa using hlt,h1,?_⟩
 have hi':(⟨l⟩:Array Oper)[i]?= some o:=by simpa using hi
 rw [hi'];simp only [Option.map_some,Option.getD_some];rw [← Array.all_toList,List.all_eq_true];intro ed hm
 cases hb:Region.binds .any ed with
 |false=>simp
 |true =>
  have:=h2 ed.on (by simp only [List.mem_map,List.mem_filter];exact ⟨ed,⟨hm,hb⟩,rfl⟩)
  simp [this]
def Shut (l:List Oper) (listed:Array Bool):Prop:=∀ i o,l[i]?= some o→listed.getD i false=true→∀ e ∈ Hw o,listed.getD e false=true
theorem Dr (hc:JE l T K=true) {listed:Array Bool} (hs:Shut l listed):∀ (i:Nat) (o:Oper),l[i]?= some o→(∀ e ∈ Hw o,listed.getD e false=true)→∀ j,j < i→DO T i j=true→listed.getD j false=true:=by
 intro i
 induction i using Nat.strongRecOn with
 |_ i ih =>
  intro o ho hp j hj hb;obtain ⟨_,h1,h2⟩:=DB hc ho;obtain ⟨e,he,h3⟩:=(h2 j hj).1 hb;have hle:=hp e he
  rcases h3 with rfl | h3
  ·exact hle
  have hei:=h1 e he;have helt:e < l.length:=Nat.lt_trans hei (List.getElem?_eq_some_iff.1 ho).1;have heo:l[e]?= some l[e]:=List.getElem?_eq_getElem helt;exact ih e hei _ heo (hs e _ heo hle) j h3.1 h3.2
theorem Gs (hc:JE l T K=true) {listed:Array Bool} (hsz:listed.size=l.length) {i:Nat} (hi:i < l.length) (hn:listed.getD i false=false):∃ j,j≤i∧j ∈ Region.ready .any ⟨l⟩ listed:=by
 induction i using Nat.strongRecOn with
 |_ i ih =>
  have ho:l[i]?= some l[i]:=List.getElem?_eq_getElem hi
  by_cases hall:∀ e ∈ Hw l[i],listed.getD e false=true
  ·refine ⟨i,Nat.le_refl _,Fm.2 ⟨l[i],ho,?_,hall⟩⟩;simp only [Array.getD] at hn ⊢;rw [dif_pos (by omega)] at hn ⊢;exact hn
  obtain ⟨e,he⟩:=Classical.not_forall.1 hall;obtain ⟨he1,he2⟩:=Classical.not_imp.1 he;have hlt:=(DB hc ho).2.1 e he1;obtain ⟨j,h1,h2⟩:=ih e hlt (by omega) (by simpa using he2);exact ⟨j,by omega,h2⟩
theorem CI {listed:Array Bool} {i j:Nat} {d:Bool} (hi:i < listed.size):(listed.setIfInBounds i true).getD j d=if i=j then true else listed.getD j d:=by
 by_cases e:i=j
 ·subst e;simp [Array.getD,hi]
 simp only [e,if_false,Array.getD,Array.size_setIfInBounds]
 by_cases hj:j < listed.size
 ·simp [hj,e]
 simp [hj]
theorem Dq {listed:Array Bool} {j:Nat} (hj:j < listed.size):listed.getD j true=listed.getD j false:=by simp [Array.getD,hj]
theorem Shut.set (hc:JE l T K=true) {listed:Array Bool} (hs:Shut l listed) (hsz:listed.size=l.length) {i:Nat} (hr:i ∈ Region.ready .any ⟨l⟩ listed):Shut l (listed.setIfInBounds i true):=by
 obtain ⟨o,ho,_,hp⟩:=Fm.1 hr
 have hlt:i < listed.size:=by rw [hsz];exact (List.getElem?_eq_some_iff.1 ho).1
 intro k ok hk hl e he;rw [CI hlt] at hl ⊢
 by_cases e1:i=e
 ·simp [e1]
 rw [if_neg e1]
 by_cases e2:i=k
 ·subst e2;rw [ho] at hk;simp only [Option.some.injEq] at hk;subst hk;exact hp e he
 rw [if_neg e2] at hl;exact hs k ok hk hl e he
theorem HC (hc:JE l T K=true) {Q:Exit→Act→World→Prop}:∀ (fuel m:Nat) (listed:Array Bool) (a:Act) (w:World),m+fuel=l.length→K≤m→listed.size=l.length→Shut l listed →
 (∀ j,j < l.length→listed.getD j false=decide (j < m))→F7 P ⟨l⟩ Q (l.drop m) a w→wpAny P .any ⟨l⟩ Q fuel listed a w
 |0,m,listed,a,w,hm,_,hsz,hs,hd,h=>by
  have hnone:Region.ready .any ⟨l⟩ listed=[]:=by
   apply List.eq_nil_iff_forall_not_mem.2
   intro i hi;obtain ⟨o,ho,h1,_⟩:=Fm.1 hi;have hlt:=(List.getElem?_eq_some_iff.1 ho).1;rw [Dq (by omega),hd i hlt] at h1
   simp at h1
   omega
  rw [List.drop_of_length_le (by omega)] at h;exact ⟨hnone,(Gd _ _ _ _ _).mp h⟩
 |fuel+1,m,listed,a,w,hm,hK,hsz,hs,hd,h=>by
  have hml:m < l.length:=by omega
  have hone:∀ i ∈ Region.ready .any ⟨l⟩ listed,i=m:=by
   intro i hi;obtain ⟨o,ho,h1,hp⟩:=Fm.1 hi;have hlt:=(List.getElem?_eq_some_iff.1 ho).1;rw [Dq (by omega),hd i hlt] at h1
   simp at h1
   rcases Nat.lt_or_ge m i with hmi | hmi
   ·exfalso
    have hb:=((DB hc ho).2.2 m hmi).2 (by omega);have:=Dr hc hs i o ho hp m hmi hb;rw [hd m hml] at this
    simp at this
   ·omega
  refine ⟨fun hnil=>?_,fun i hi=>?_⟩
  ·obtain ⟨j,_,hj⟩:=Gs hc hsz hml (by rw [hd m hml];simp);rw [hnil] at hj
   cases hj
  ·have:=hone i hi;subst this;have hsh:=hs.set hc hsz hi;rw [List.drop_eq_getElem_cons hml] at h
   have ho:(⟨l⟩:Array Oper)[i]?= some l[i]:=by simpa using List.getElem?_eq_getElem hml
   have hnext:∀ a' w',F7 P ⟨l⟩ Q (l.drop (i+1)) a' w'→wpAny P .any ⟨l⟩ Q fuel (listed.setIfInBounds i true) a' w':=by
    intro a' w' h';refine HC hc fuel (i+1) _ a' w' (by omega) (by omega) (by simpa using hsz) hsh (fun j hj=>?_) h';rw [CI (by omega),hd j hj]
    by_cases e:i=j
    ·subst e;simp
    ·simp only [e,if_false]
     by_cases c:j < i
     ·simp [c,show j < i+1 by omega]
     ·simp [c,show ¬ j < i+1 by omega]
   unfold wpOp
   simp only [ho];simp only [CW] at h
   split
   ·rename_i hw
    simp only [hw,if_true] at h;exact .inl (Oper.wp_mono hnext h)
   ·rename_i hw
    simp only [hw,if_false,Bool.false_eq_true] at h;exact hnext _ _ h
def B4 (K:Nat) (listed:Array Bool):List Bool:=(List.range K).map fun j=>listed.getD j false
theorem Co {listed:Array Bool} {j:Nat}:(B4 K listed)[j]?= some true↔j < K∧listed.getD j false=true:=by
 unfold B4
 simp only [List.getElem?_map,Option.map_eq_some_iff]
 constructor
 ·rintro ⟨k,h1,h2⟩;obtain ⟨hlt,he⟩:=List.getElem?_eq_some_iff.1 h1
  simp at hlt he
  subst he;exact ⟨hlt,h2⟩
 rintro ⟨h1,h2⟩;exact ⟨j,by simp [h1],h2⟩
theorem Rel.sub {C:Ctx} {E:Env} {X:Nat→List Value} {σ σ':St} {a:Act} (h:Rel C E X σ a) (hs:∀ s v,Al σ'.slots s=some v→Al σ.slots s=some v) (ho:∀ r o,Al σ'.objs r=some o→Al σ.objs r=some o)
 (hn:σ.next≤σ'.next) (ht:σ'.nt=σ.nt) (he:σ'.env=σ.env):Rel C E X σ' a :=
 ⟨fun s v hv=>h.slots s v (hs s v hv),h.size.trans ht.symm,h.defers,fun r o hr=>h.objs r o (ho r o hr),fun r r' o o' b hr hr'=>h.apart r r' o o' b (ho r o hr) (ho r' o' hr'),
   fun b hb=>⟨(h.stay b hb).1,fun r o hr=>(h.stay b hb).2 r o (ho r o hr)⟩,fun r hr=>Nat.lt_of_lt_of_le (h.fresh r hr) hn,h.kept,fun r o b hr=>h.mine r o b (ho r o hr),h.env,h.envD,h.base,h.grow,h.envk.trans he.symm,h.glob⟩
theorem Gb {σ:St} {nx:Nat} {R:List Res} {bs bs':List Bool} (hnd:(R.map (·.dst)).Nodup) (hid:∀ (m:Nat) (q:Res),R[m]?= some q→∀ k o,Al q.new k=some o→σ.next+4 * (0+m)≤k∧k < σ.next+4 * (0+m)+4)
 (hσ:∀ k o,Al σ.objs k=some o→k < σ.next) (hb:∀ j:Nat,bs'[j]?= some true→bs[j]?= some true) :
 (∀ s v,Al (C5 σ (R.map (·.dst)) nx bs' R).slots s=some v→Al (C5 σ (R.map (·.dst)) nx bs R).slots s=some v) ∧
 (∀ r o,Al (C5 σ (R.map (·.dst)) nx bs' R).objs r=some o→Al (C5 σ (R.map (·.dst)) nx bs R).objs r=some o):=by
 constructor
 ·intro s v h;simp only [C5] at h ⊢;rw [AZ] at h ⊢
  cases h1:Al (slotsM bs' R) s with
  |some u =>
   rw [h1] at h;simp only [Option.some_or,Option.some.injEq] at h;subst h;obtain ⟨j,r,g1,g2,rfl,rfl⟩:=find_slotsM bs' R s u h1;rw [slotsM_find bs R j r hnd (hb j g1) g2];rfl
  |none =>
   rw [h1] at h;simp only [Option.none_or] at h;have hh:=h;rw [Fi] at hh
   split at hh
   ·cases hh
   rename_i hmem
   cases h2:Al (slotsM bs R) s with
   |some u =>
    obtain ⟨j,r,g1,g2,rfl,rfl⟩:=find_slotsM bs R s u h2;exact absurd (List.mem_map.2 ⟨r,List.mem_of_getElem? g2,rfl⟩) hmem
   |none=>simpa using h
 intro k o h;simp only [C5] at h ⊢;rw [AZ] at h ⊢
 cases h1:Al (objsM bs' R) k with
 |some u =>
  rw [h1] at h;simp only [Option.some_or,Option.some.injEq] at h;subst h;obtain ⟨j,r,g1,g2,g3⟩:=find_objsM bs' R k u h1;rw [Gq σ.next bs R 0 j r k u hid (hb j g1) g2 g3];rfl
 |none =>
  rw [h1] at h;simp only [Option.none_or] at h
  cases h2:Al (objsM bs R) k with
  |some u =>
   obtain ⟨j,r,g1,g2,g3⟩:=find_objsM bs R k u h2;have:=hid j r g2 k u g3;have:=hσ k o h;omega
  |none=>simpa using h
theorem P9 {σ:St} {nx:Nat} {R:List Res} {Q:Exit→Act→World→Prop} {C:Ctx} (hc:JE l T K=true) (hKl:K≤l.length) (hRl:R.length=K) (hnd:(R.map (·.dst)).Nodup)
 (hR:∀ i,i < K→Lq P l σ (R.map (·.dst)) nx K T R i) (hnx:σ.next+4 * K≤nx) (hσ:∀ k o,Al σ.objs k=some o→k < σ.next)
 (hfin:∀ E X a,Rel C E X (C5 σ (R.map (·.dst)) nx (List.replicate K true) R) a→F7 P ⟨l⟩ Q (l.drop K) a E.w) :
 ∀ (fuel:Nat) (listed:Array Bool) (E:Env) (X:Nat→List Value) (a:Act),listed.size=l.length→(List.range l.length).countP (fun j=> !listed.getD j true)=fuel→Shut l listed→(∀ i,K≤i→listed.getD i false=false) →
  Rel C E X (C5 σ (R.map (·.dst)) nx (B4 K listed) R) a→(∀ r,E.D r→r < σ.next∨∃ j q ob,listed.getD j false=true∧R[j]?= some q∧Al q.new r=some ob) →
  wpAny P .any ⟨l⟩ Q fuel listed a E.w:=by
 have hid:∀ (m:Nat) (q:Res),R[m]?= some q→∀ k o,Al q.new k=some o→σ.next+4 * (0+m)≤k∧k < σ.next+4 * (0+m)+4:=by
  intro m q hq k o hf
  have hm:m < K:=by rw [← hRl];exact (List.getElem?_eq_some_iff.1 hq).1
  have ho:l[m]?= some l[m]:=List.getElem?_eq_getElem (by omega);have:=(hR m hm _ q ho hq).2.2.1 k o hf;omega
 intro fuel
 induction fuel with
 |zero =>
  intro listed E X a hsz hcnt hs hge hr hD
  have hall:∀ j,j < l.length→listed.getD j true=true:=by
   intro j hj;have:=List.countP_eq_zero.1 hcnt j (by simpa using hj)
   simpa using this
  have hKn:K=l.length:=by
   rcases Nat.lt_or_ge K l.length with h | h
   ·have h1:=hall K h;rw [Dq (by omega),hge K (Nat.le_refl _)] at h1
    cases h1
   omega
  refine HC hc 0 K listed a E.w (by omega) (Nat.le_refl _) hsz hs (fun j hj=>?_) (hfin E X a ?_)
  ·rw [← Dq (by omega),hall j hj]
   simp;omega
  have hb:=Gb (nx:=nx) (bs:=B4 K listed) (bs':=List.replicate K true) hnd hid hσ (fun j hj=>Co.2 (by
   obtain ⟨hlt,_⟩:=List.getElem?_eq_some_iff.1 hj
   simp at hlt
   exact ⟨hlt,by rw [← Dq (by omega)];exact hall j (by omega)⟩))
  exact hr.sub hb.1 hb.2 (Nat.le_refl _) rfl rfl
 |succ fuel ih =>
  intro listed E X a hsz hcnt hs hge hr hD
  by_cases hallK:∀ j,j < K→listed.getD j false=true
  ·
   have hb:=Gb (nx:=nx) (bs:=B4 K listed) (bs':=List.replicate K true) hnd hid hσ (fun j hj=>Co.2 (by
    obtain ⟨hlt,_⟩:=List.getElem?_eq_some_iff.1 hj
    simp at hlt
    exact ⟨hlt,hallK j hlt⟩))
   have hr':=hr.sub (σ':=C5 σ (R.map (·.dst)) nx (List.replicate K true) R) hb.1 hb.2 (Nat.le_refl _) rfl rfl
   have hd:∀ j,j < l.length→listed.getD j false=decide (j < K):=by
    intro j hj
    by_cases h:j < K
    ·simp [hallK j h,h]
    simp [hge j (by omega),h]
   have hcnt2:(List.range l.length).countP (fun j=> !listed.getD j true)=l.length - K:=by
    have e1:(List.range l.length).countP (fun j=> !listed.getD j true)=(List.range l.length).countP (fun j=>decide (K≤j)):=by
     apply List.countP_congr
     intro j hj
     have hj':j < l.length:=by simpa using hj
     rw [Dq (by omega),hd j hj']
     simp
    rw [e1]
    have:∀ n,(List.range n).countP (fun j=>decide (K≤j))=n - K:=by
     intro n
     induction n with
     |zero=>simp
     |succ n ihn =>
      rw [List.range_succ,List.countP_append,ihn,List.countP_singleton]
      by_cases h:K≤n
      ·simp [h];omega
      simp [h];omega
    exact this _
   exact HC hc (fuel+1) K listed a E.w (by omega) (Nat.le_refl _) hsz hs hd (hfin E X a hr')
  obtain ⟨j0,hj0⟩:=Classical.not_forall.1 hallK;obtain ⟨hj1,hj2⟩:=Classical.not_imp.1 hj0
  have hj2:listed.getD j0 false=false:=by simpa using hj2
  refine ⟨fun hnil=>?_,fun i hi=>?_⟩
  ·obtain ⟨j,_,hj⟩:=Gs hc hsz (show j0 < l.length by omega) hj2;rw [hnil] at hj
   cases hj
  obtain ⟨o,ho,h1,hp⟩:=Fm.1 hi;have hlt:=(List.getElem?_eq_some_iff.1 ho).1
  have hiK:i < K:=by
   rcases Nat.lt_or_ge i K with h | h
   ·exact h
   exfalso
   have hb:=((DB hc ho).2.2 j0 (by omega)).2 h;have:=Dr hc hs i o ho hp j0 (by omega) hb;rw [hj2] at this
   cases this
  have hRi:R[i]?= some (R[i]'(by omega)):=List.getElem?_eq_getElem (by omega)
  generalize hri:(R[i]'(by omega))=ri at hRi
  obtain ⟨hdst,hdn,hids,hor⟩:=hR i hiK o ri ho hRi;have hsh:=hs.set hc hsz hi;have hlen:=(DB hc ho).1
  have hbits:∀ j:Nat,((T[i]?).getD [])[j]?= some true→(B4 K listed)[j]?= some true:=by
   intro j hj;have hji:j < i:=Nat.lt_of_lt_of_le (List.getElem?_eq_some_iff.1 hj).1 hlen;refine Co.2 ⟨by omega,Dr hc hs i o ho hp j hji ?_⟩
   unfold DO
   rw [List.getD_eq_getElem?_getD,hj];rfl
  have hb:=Gb (nx:=nx) (bs:=B4 K listed) (bs':=(T[i]?).getD []) hnd hid hσ hbits;have hrr:=hr.sub (σ':=C5 σ (R.map (·.dst)) nx ((T[i]?).getD []) R) hb.1 hb.2 (Nat.le_refl _) rfl rfl
  have ho':(⟨l⟩:Array Oper)[i]?= some o:=by simpa using ho
  have hbn:∀ j:Nat,(B4 K (listed.setIfInBounds i true))[j]?= some true→j=i∨(B4 K listed)[j]?= some true:=by
   intro j hj;obtain ⟨g1,g2⟩:=Co.1 hj;rw [CI (by omega)] at g2
   by_cases e:i=j
   ·exact .inl e.symm
   rw [if_neg e] at g2;exact .inr (Co.2 ⟨g1,g2⟩)
  have hstep:∀ (E':Env) X' a',Rel C E' X' ((C5 σ (R.map (·.dst)) nx (B4 K listed) R).ext o.dst ri.v ri.new nx) a'→(∀ r,E'.D r→E.D r∨∃ ob,Al ri.new r=some ob) →
   wpAny P .any ⟨l⟩ Q fuel (listed.setIfInBounds i true) a' E'.w:=by
   intro E' X' a' hr' hD';refine ih _ E' X' a' (by simpa using hsz) ?_ hsh ?_ ?_ ?_
   ·have:=Hr hsz hlt h1;omega
   ·intro k hk;rw [CI (by omega),if_neg (by omega)];exact hge k hk
   ·refine hr'.sub ?_ ?_ (Nat.le_refl _) rfl rfl
    ·intro s v hv;simp only [C5,St.ext,hdst] at hv ⊢;rw [A8];rw [AZ] at hv
     cases g1:Al (slotsM (B4 K (listed.setIfInBounds i true)) R) s with
     |some u =>
      rw [g1] at hv;simp only [Option.some_or,Option.some.injEq] at hv;subst hv;obtain ⟨j,q,k1,k2,rfl,rfl⟩:=find_slotsM _ R s u g1
      rcases hbn j k1 with rfl | k1
      ·rw [hRi] at k2;simp only [Option.some.injEq] at k2;subst k2
       simp
      ·by_cases e:ri.dst=q.dst
       ·rw [if_pos e]
        have hij:i=j:=by
         have e1:(R.map (·.dst))[i]?= some ri.dst:=by simp [hRi]
         have e2:(R.map (·.dst))[j]?= some ri.dst:=by simp [k2,e]
         obtain ⟨q1,q2⟩:=List.getElem?_eq_some_iff.1 e1;obtain ⟨q3,q4⟩:=List.getElem?_eq_some_iff.1 e2;exact (List.getElem_inj hnd).1 (q2.trans q4.symm)
        subst hij;rw [hRi] at k2;simp only [Option.some.injEq] at k2;rw [k2]
       ·rw [if_neg e,AZ,slotsM_find _ R j q hnd k1 k2];rfl
     |none =>
      rw [g1] at hv;simp only [Option.none_or] at hv;have hh:=hv;rw [Fi] at hh
      split at hh
      ·cases hh
      ·rename_i hmem
       have hne:ri.dst≠s:=fun e=>hmem (List.mem_map.2 ⟨ri,List.mem_of_getElem? hRi,e⟩);rw [if_neg hne,AZ]
       cases g2:Al (slotsM (B4 K listed) R) s with
       |some u =>
        obtain ⟨j,q,k1,k2,rfl,rfl⟩:=find_slotsM _ R s u g2;exact absurd (List.mem_map.2 ⟨q,List.mem_of_getElem? k2,rfl⟩) hmem
       |none=>simpa using hv
    ·intro k ob hv;simp only [C5,St.ext] at hv ⊢;rw [AZ] at hv;rw [AZ]
     cases g1:Al (objsM (B4 K (listed.setIfInBounds i true)) R) k with
     |some u =>
      rw [g1] at hv;simp only [Option.some_or,Option.some.injEq] at hv;subst hv;obtain ⟨j,q,k1,k2,k3⟩:=find_objsM _ R k u g1
      rcases hbn j k1 with rfl | k1
      ·rw [hRi] at k2;simp only [Option.some.injEq] at k2;subst k2;rw [k3];rfl
      ·by_cases e:j=i
       ·subst e;rw [hRi] at k2;simp only [Option.some.injEq] at k2;subst k2;rw [k3];rfl
       ·have hnone:Al ri.new k=none:=by
         cases g2:Al ri.new k with
         |none=>rfl
         |some ob' =>
          have r1:=hid i ri hRi k ob' g2;have r2:=hid j q k2 k u k3;omega
        rw [hnone,AZ,Gq σ.next _ R 0 j q k u hid k1 k2 k3];rfl
     |none =>
      rw [g1] at hv;simp only [Option.none_or] at hv;have hklt:=hσ k ob hv
      have hnone:Al ri.new k=none:=by
       cases g2:Al ri.new k with
       |none=>rfl
       |some ob' =>
        have r1:=hid i ri hRi k ob' g2;omega
      rw [hnone,AZ]
      cases g2:Al (objsM (B4 K listed) R) k with
      |some u =>
       obtain ⟨j,q,k1,k2,k3⟩:=find_objsM _ R k u g2;have:=hid j q k2 k u k3;omega
      |none=>simpa using hv
   ·intro r hr2
    rcases hD' r hr2 with h | ⟨ob,h⟩
    ·rcases hD r h with h | ⟨j,q,ob,k1,k2,k3⟩
     ·exact .inl h
     ·refine .inr ⟨j,q,ob,?_,k2,k3⟩;rw [CI (by omega)]
      split
      ·rfl
      ·exact k1
    ·exact .inr ⟨i,ri,ob,by rw [CI (by omega),if_pos rfl],hRi,h⟩
  have hst:∀ d,o.dst=some d→d < (C5 σ (R.map (·.dst)) nx (B4 K listed) R).nt:=by
   intro d hd;rw [hdst] at hd;simp only [Option.some.injEq] at hd;subst hd;exact hdn
  unfold wpOp
  simp only [ho']
  rcases hor with ⟨hg,hloc⟩ | ⟨hg,hv,hnew⟩
  ·rw [hrr.guard hg,if_pos rfl];refine .inl (hloc C E X a hrr (fun r ob hf hDr=>?_) _ _ (fun y E' X' hLP=>?_))
   ·have r1:=hid i ri hRi r ob hf
    rcases hD r hDr with h | ⟨j,q,ob',k1,k2,k3⟩
    ·omega
    have r2:=hid j q k2 r ob' k3
    have hji:j=i:=by omega
    subst hji
    have:listed.getD j true=true:=by rw [Dq (by omega)];exact k1
    rw [h1] at this
    cases this
   obtain ⟨X'',hr'⟩:=hr.ext hLP o.dst nx hst (fun r ob hf=>by have:=hid i ri hRi r ob hf;omega) (Nat.le_refl _);exact hstep E' X'' _ hr' hLP.dom
  rw [hrr.guard hg,if_neg (by simp)];have hput:=hr.put o.dst hst (v:=(.lit undef)) (y:=undef) (by simp [FV]);refine hstep E X _ ?_ (fun r hr=> .inl hr);rw [hv,hnew];exact hput.sub (fun s v h=>h) (fun r ob h=>h) (Nat.le_refl _) rfl rfl
end draw
def C4 (σ:St) (nx:Nat) (bs:List Bool) (R:List Res):St :=
 { slots:=slotsM bs R ++ σ.slots,objs:=objsM bs R ++ σ.objs,next:=nx,nt:=σ.nt,env:=σ.env }
def FP (σ:St) (nx:Nat) (R:List Res):St :=
 { slots:=R.map (fun r=>(r.dst,r.v)) ++ σ.slots,objs:=R.flatMap (·.new) ++ σ.objs,next:=nx,nt:=σ.nt,env:=σ.env }
def Oy (ds:List Nat):List (Nat × AV)→Bool
 |[]=>true
 |p :: l=> !(ds.elem p.1) && Oy ds l
theorem GL {ds:List Nat}:∀ {l:List (Nat × AV)},Oy ds l=true→I9 ds l=l
 |[],_=>rfl
 |p :: l,h=>by
  simp only [Oy,Bool.and_eq_true,Bool.not_eq_true'] at h;simp only [I9,h.1,cond_false,GL h.2]
theorem slotsM_all:∀ (R:List Res),slotsM (List.replicate R.length true) R=R.map (fun r=>(r.dst,r.v))
 |[]=>rfl
 |r :: R=>by simp [slotsM,List.replicate_succ,slotsM_all R]
theorem objsM_all:∀ (R:List Res),objsM (List.replicate R.length true) R=R.flatMap (·.new)
 |[]=>rfl
 |r :: R=>by simp [objsM,List.replicate_succ,objsM_all R]
theorem slotsM_prefix:∀ (bs:List Bool) (R S:List Res),bs.length≤R.length→slotsM bs (R ++ S)=slotsM bs R
 |[],R,S,_=>by cases R <;> cases S <;> simp [slotsM]
 |b :: bs,[],S,h=>by simp at h
 |b :: bs,r :: R,S,h=>by
  simp only [List.cons_append,slotsM];rw [slotsM_prefix bs R S (by simpa using h)]
theorem objsM_prefix:∀ (bs:List Bool) (R S:List Res),bs.length≤R.length→objsM bs (R ++ S)=objsM bs R
 |[],R,S,_=>by cases R <;> cases S <;> simp [objsM]
 |b :: bs,[],S,h=>by simp at h
 |b :: bs,r :: R,S,h=>by
  simp only [List.cons_append,objsM];rw [objsM_prefix bs R S (by simpa using h)]
def DS (lo:Nat) (new:List (Nat × Obj)):Prop:=∀ p ∈ new,lo≤p.1∧p.1 < lo+4
theorem Fz {lo:Nat}:∀ {new:List (Nat × Obj)},DS lo new→∀ k ob,Al new k=some ob→lo≤k∧k < lo+4
 |[],_,k,ob,h=>by simp [Al] at h
 |(j,o) :: l,h,k,ob,hf=>by
  rw [A8] at hf
  split at hf
  ·rename_i e
   subst e;exact h (j,o) (by simp)
  ·exact Fz (fun p hp=>h p (by simp [hp])) k ob hf
def Ud (P:Program) (l:List Oper) (σ:St) (nx:Nat) (Q:St→Prop) (rest:List Oper) (R:List Res):Prop:=SeqL P ⟨l⟩ rest (FP σ nx R) Q
def DP (P:Program) (l:List Oper) (gs:List (Option Nat)) (σ:St) (nx:Nat) (Fin:List Oper→List Res→Prop):List Oper→List (List Bool)→List Res→Prop
 |rest,[],R=>Fin rest R
 |[],_ :: _,_=>False
 |o :: rest,bs :: Ts,R=>match o.dst with
  |none=>False
  |some d=>match AL gs (C4 σ nx bs R) o.guard with
   |some true=>match At P (C4 σ nx bs R) (σ.next+4 * R.length) o.op with
    |some (v,new)=>DP P l gs σ nx Fin rest Ts (R ++ [⟨d,v,new⟩])
    |none=>∃ v new,DS (σ.next+4 * R.length) new∧Local P (C4 σ nx bs R) o v new∧DP P l gs σ nx Fin rest Ts (R ++ [⟨d,v,new⟩])
   |some false=>DP P l gs σ nx Fin rest Ts (R ++ [⟨d,(.lit undef),[]⟩])
   |none=>False
theorem Jg {P:Program} {l:List Oper} {σ:St} {nx:Nat} {Fin:List Oper→List Res→Prop}:∀ (rest:List Oper) (Ts:List (List Bool)) (R:List Res),DP P l (AU ⟨l⟩) σ nx Fin rest Ts R→(∀ i,(h:i < Ts.length)→Ts[i].length≤R.length+i) →
 ∃ S:List Res,S.length=Ts.length∧Fin (rest.drop Ts.length) (R ++ S) ∧
  ∀ i,i < Ts.length→∃ o r,rest[i]?= some o∧S[i]?= some r∧o.dst=some r.dst∧DS (σ.next+4 * (R.length+i)) r.new ∧
   ((AL (AU ⟨l⟩) (C4 σ nx ((Ts[i]?).getD []) (R ++ S)) o.guard=some true∧Local P (C4 σ nx ((Ts[i]?).getD []) (R ++ S)) o r.v r.new) ∨
    (AL (AU ⟨l⟩) (C4 σ nx ((Ts[i]?).getD []) (R ++ S)) o.guard=some false∧r.v=(.lit undef)∧r.new=[]))
 |rest,[],R,h,_=>by
  simp only [DP] at h;exact ⟨[],rfl,by simpa using h,fun i hi=>by simp at hi⟩
 |[],_ :: _,_,h,_=>by simp [DP] at h
 |o :: rest,bs :: Ts,R,h,hlen=>by
  have hbs:bs.length≤R.length:=hlen 0 (Nat.succ_pos _);simp only [DP] at h
  split at h
  ·exact h.elim
  ·rename_i d hd
   have key:∀ v new,DP P l (AU ⟨l⟩) σ nx Fin rest Ts (R ++ [⟨d,v,new⟩])→DS (σ.next+4 * R.length) new →
    ((AL (AU ⟨l⟩) (C4 σ nx bs R) o.guard=some true∧Local P (C4 σ nx bs R) o v new)∨(AL (AU ⟨l⟩) (C4 σ nx bs R) o.guard=some false∧v=(.lit undef)∧new=[])) →
    ∃ S:List Res,S.length=(bs :: Ts).length∧Fin ((o :: rest).drop (bs :: Ts).length) (R ++ S) ∧
     ∀ i,i < (bs :: Ts).length→∃ o' r,(o :: rest)[i]?= some o'∧S[i]?= some r∧o'.dst=some r.dst∧DS (σ.next+4 * (R.length+i)) r.new ∧
      ((AL (AU ⟨l⟩) (C4 σ nx (((bs :: Ts)[i]?).getD []) (R ++ S)) o'.guard=some true∧Local P (C4 σ nx (((bs :: Ts)[i]?).getD []) (R ++ S)) o' r.v r.new) ∨
       (AL (AU ⟨l⟩) (C4 σ nx (((bs :: Ts)[i]?).getD []) (R ++ S)) o'.guard=some false∧r.v=(.lit undef)∧r.new=[])):=by
    intro v new hdr hids hor
    obtain ⟨S,h1,h2,h3⟩:=Jg rest Ts _ hdr (fun i hi=>by
     have:=hlen (i+1) (by simpa using hi);simp only [List.getElem_cons_succ,List.length_append,List.length_singleton] at this ⊢
     omega)
    refine ⟨⟨d,v,new⟩ :: S,by simp [h1],?_,?_⟩
    ·rw [List.append_assoc] at h2
     simpa using h2
    ·intro i hi
     cases i with
     |zero =>
      refine ⟨o,⟨d,v,new⟩,rfl,rfl,hd,by simpa using hids,?_⟩
      have e1:C4 σ nx (((bs :: Ts)[0]?).getD []) (R ++ ⟨d,v,new⟩ :: S)=C4 σ nx bs R:=by
       simp only [List.getElem?_cons_zero,Option.getD_some,C4,slotsM_prefix bs R _ hbs,objsM_prefix bs R _ hbs]
      rw [e1];exact hor
     |succ i =>
      obtain ⟨o',r,k1,k2,k3,k4,k5⟩:=h3 i (by simpa using hi);refine ⟨o',r,by simpa using k1,by simpa using k2,k3,?_,?_⟩
      ·have:R.length+(i+1)=(R ++ [(⟨d,v,new⟩:Res)]).length+i:=by simp;omega
       rw [this];exact k4
      ·rw [List.append_assoc] at k5
       simpa using k5
   split at h
   ·rename_i hg
    split at h
    ·rename_i v new hq
     refine key v new h ?_ (.inl ⟨hg,EO hq⟩)
     rcases I3 hq with rfl | ⟨ob,rfl⟩
     ·intro p hp;simp at hp
     ·intro p hp
      simp at hp
      subst hp
      simp
    ·obtain ⟨v,new,hids,hloc,h⟩:=h;exact key v new h hids (.inl ⟨hg,hloc⟩)
   ·rename_i hg
    exact key (.lit undef) [] h (fun p hp=>by simp at hp) (.inr ⟨hg,rfl,rfl⟩)
   ·exact h.elim
theorem Rel.drew {C:Ctx} {E:Env} {X:Nat→List Value} {σ:St} {a:Act} (h:Rel C E X σ a):Rel C { E with w:=E.w.drew } X σ a:=by
 have hle:E.le { E with w:=E.w.drew }:=⟨fun b hb=>⟨hb,rfl⟩,fun r hr=>⟨hr,rfl,rfl⟩⟩
 exact ⟨fun s v hv=>FV.le _ hle _ (h.slots s v hv),h.size,h.defers,fun r o hr=>⟨(h.objs r o hr).1,(h.objs r o hr).2.1,(h.objs r o hr).2.2.1.kept (fun b _=>rfl),FVr.le _ _ (hle.by _) _ (h.objs r o hr).2.2.2⟩,h.apart,
  h.stay,h.fresh,⟨h.kept.os,h.kept.tape.trans ⟨rfl,Nat.le_succ _⟩,h.kept.output,h.kept.size,h.kept.block⟩,h.mine,h.env,h.envD,h.base,h.grow,h.envk,h.glob.le hle⟩
def dstsL:List Oper→List Nat
 |[]=>[]
 |o :: l=>match o.dst with
  |some d=>d :: dstsL l
  |none=>dstsL l
def IL (l:List Oper) (T:List (List Bool)) (σ:St) (K:Nat):Bool :=
 JE l T K && Nat.ble K l.length && (let ds:=dstsL (l.take K);Oy ds σ.slots && decide ds.Nodup && ds.all (fun d=>Nat.blt d σ.nt))
theorem Vz {P:Program} {σ:St} {Q:Exit→St→Prop} {id:Nat} {l:List Oper} (T:List (List Bool)) (K:Nat) (hm:P.follows .mixedOrders=true) (hok:IL l T σ K=true) (hTl:K≤T.length)
 (h:∀ Kt:St→Prop,(∀ σ',Q .normal σ'→Kt σ')→DP P l (AU ⟨l⟩) σ (σ.next+4 * K) (Ud P l σ (σ.next+4 * K) Kt) l (T.take K) []):Ev P (.region id ⟨l⟩ true) σ Q:=by
 simp only [IL,Bool.and_eq_true,decide_eq_true_eq,List.all_eq_true] at hok;obtain ⟨⟨hc,hKl⟩,⟨hdj,hnd⟩,hdn⟩:=hok;have hKl:=CG hKl
 have hTK:(T.take K).length=K:=by simp;omega
 obtain ⟨S,h1,h2,h3⟩:=Jg l (T.take K) [] (h (Q .normal) (fun _ h=>h)) (fun i hi=>by
  have hiK:i < K:=by omega
  have ho:l[i]?= some l[i]:=List.getElem?_eq_getElem (by omega);have:=(DB hc ho).1;have e:T[i]?= some T[i]:=List.getElem?_eq_getElem (by omega);rw [e] at this
  simpa using this)
 simp only [List.nil_append,List.length_nil,Nat.zero_add] at h2 h3;rw [hTK] at h1 h2 h3
 have hds:S.map (·.dst)=dstsL (l.take K):=by
  have key:∀ (n:Nat) (l':List Oper) (S':List Res),S'.length=n→l'.length=n→(∀ i,i < n→∃ o r,l'[i]?= some o∧S'[i]?= some r∧o.dst=some r.dst)→S'.map (·.dst)=dstsL l':=by
   intro n
   induction n with
   |zero =>
    intro l' S' e1 e2 _;rw [List.eq_nil_of_length_eq_zero e1,List.eq_nil_of_length_eq_zero e2];rfl
   |succ n ih =>
    intro l' S' e1 e2 hh
    match l',S',e1,e2 with
    |o :: l',r :: S',e1,e2 =>
     obtain ⟨o0,r0,k1,k2,k3⟩:=hh 0 (by omega);simp only [List.getElem?_cons_zero,Option.some.injEq] at k1 k2;subst k1 k2;simp only [List.map_cons,dstsL,k3]
     rw [ih l' S' (by simpa using e1) (by simpa using e2) (fun i hi=>by
      obtain ⟨o1,r1,j1,j2,j3⟩:=hh (i+1) (by omega)
      exact ⟨o1,r1,by simpa using j1,by simpa using j2,j3⟩)]
  refine key K (l.take K) S h1 (by simp;omega) (fun i hi=>?_);obtain ⟨o,r,k1,k2,k3,_⟩:=h3 i hi;exact ⟨o,r,by rw [List.getElem?_take,if_pos hi];exact k1,k2,k3⟩
 have hst:∀ bs,C5 σ (S.map (·.dst)) (σ.next+4 * K) bs S=C4 σ (σ.next+4 * K) bs S:=by
  intro bs;simp only [C5,C4,hds,GL hdj]
 intro C E X a hr;refine wp_region_any hm ?_;have hr':=hr.drew;have hσ:∀ k o,Al σ.objs k=some o→k < σ.next:=fun k o hk=>hr.fresh k (hr.objs k o hk).1
 have hR:∀ i,i < K→Lq P l σ (S.map (·.dst)) (σ.next+4 * K) K T S i:=by
  intro i hi o r ho hSr;obtain ⟨o',r',k1,k2,k3,k4,k5⟩:=h3 i hi;rw [ho] at k1;rw [hSr] at k2;simp only [Option.some.injEq] at k1 k2;subst k1 k2;refine ⟨k3,?_,fun k ob hf=>Fz k4 k ob hf,?_⟩
  ·have:r.dst ∈ dstsL (l.take K):=by rw [← hds];exact List.mem_map.2 ⟨r,List.mem_of_getElem? hSr,rfl⟩
   exact Nat.le_of_ble_eq_true (hdn _ this)
  rw [hst]
  have e:((T.take K)[i]?).getD []=(T[i]?).getD []:=by rw [List.getElem?_take,if_pos hi]
  rw [e] at k5;exact k5
 have hall:C5 σ (S.map (·.dst)) (σ.next+4 * K) (List.replicate K true) S=FP σ (σ.next+4 * K) S:=by
  rw [hst];simp only [C4,FP];rw [← h1,slotsM_all,objsM_all]
 have hgoal:=P9 (P:=P) (nx:=σ.next+4 * K) (C:=C) (Q:=fun e a' w'=>∃ E' X' σ',E'.w=w'∧Rel C E' X' σ' a'∧Q e σ') hc hKl h1 (by rw [hds];exact hnd) hR (Nat.le_refl _) hσ (fun E X a hr2=>by
  rw [hall] at hr2
  exact h2 C E X a hr2 _ (fun E' X' σ' a' hr3 hq=>⟨E',X',σ',rfl,hr3,hq⟩))
  l.length (Array.replicate l.length false) { E with w:=E.w.drew } X a (by simp) ?_ ?_ ?_ ?_ ?_
 ·simpa using hgoal
 ·have:∀ n,n≤l.length→(List.range n).countP (fun j=> !(Array.replicate l.length false).getD j true)=n:=by
   intro n
   induction n with
   |zero=>intro _;simp
   |succ n ih =>
    intro hn;rw [List.range_succ,List.countP_append,ih (by omega),List.countP_singleton]
    simp [Array.getD,show n < l.length by omega]
  exact this _ (Nat.le_refl _)
 ·intro i o _ hl
  simp [Array.getD] at hl
 ·intro i _
  simp [Array.getD]
 ·have hb:∀ j:Nat,(B4 K (Array.replicate l.length false))[j]?≠some true:=by
   intro j hj;have:=(Co.1 hj).2
   simp [Array.getD] at this
  refine hr'.sub ?_ ?_ (by simp [C5]) rfl rfl
  ·intro s v hv;simp only [C5,hds,GL hdj] at hv;rw [AZ] at hv
   cases g:Al (slotsM (B4 K (Array.replicate l.length false)) S) s with
   |some u =>
    obtain ⟨j,r,g1,_⟩:=find_slotsM _ S s u g;exact absurd g1 (hb j)
   |none=>rw [g] at hv;simpa using hv
  intro k o hv;simp only [C5] at hv;rw [AZ] at hv
  cases g:Al (objsM (B4 K (Array.replicate l.length false)) S) k with
  |some u =>
   obtain ⟨j,r,g1,_⟩:=find_objsM _ S k u g;exact absurd g1 (hb j)
  |none=>rw [g] at hv;simpa using hv
 intro r hD;exact .inl (hr.fresh r hD)
def readsOf:Op→Option (List Operand)
 |.move x=>some [x]
 |.assign x=>some [x]
 |.pick c x y=>some [c,x,y]
 |.binOp _ _ x y _=>some [x,y]
 |.unOp _ _ x=>some [x]
 |.convert _ _ x=>some [x]
 |.makeInterface _ x=>some [x]
 |.index _ x i=>some [x,i]
 |.load _ x=>some [x]
 |.fieldAddr _ x _=>some [x]
 |.field _ x _=>some [x]
 |.indexAddr _ x i=>some [x,i]
 |.slice _ x lo hi none=>some (x :: lo.toList ++ hi.toList)
 |.build _ parts=>some (parts.toList.map (·.2))
 |.makeFunc _ first caps=>some (first.toList ++ caps.toList)
 |.extract x _=>some [x]
 |.nilCheck x=>some [x]
 |.call { callee:= .builtin _,args:=as,argTypes:=_ }=>some as.toList
 |.call { callee:= .value x,args:=as,argTypes:=_ }=>some (x :: as.toList)
 |_=>none
def okT:List Nat→List Bool→Nat→Bool
 |[],_,_=>true
 |d :: ds,bs,t=>bif Nat.beq d t then (match bs with | b :: _=>b | []=>false) else okT ds bs.tail t
def LJ (ds:List Nat) (bs:List Bool):Operand→Bool
 |.tmp t=>okT ds bs t
 |_=>true
theorem okT_spec:∀ (ds:List Nat) (bs:List Bool) (t:Nat),okT ds bs t=true→ds.Nodup→∀ (j:Nat),ds[j]?= some t→bs[j]?= some true
 |[],_,t,_,_,j,h=>by simp at h
 |d :: ds,bs,t,h,hnd,j,hj=>by
  simp only [okT] at h;simp only [List.nodup_cons] at hnd
  cases j with
  |zero =>
   simp at hj
   subst hj;rw [Nat.beq_refl] at h;simp only [cond_true] at h
   cases bs with
   |nil=>simp at h
   |cons b bs=>simp at h;simp [h]
  |succ j =>
   simp at hj
   have hne:Nat.beq d t=false:=by
    cases hb:Nat.beq d t with
    |false=>rfl
    |true =>
     rw [Nat.beq_eq] at hb;subst hb;exact absurd (List.mem_of_getElem? hj) hnd.1
   rw [hne] at h;simp only [cond_false] at h;have:=okT_spec ds bs.tail t h hnd.2 j hj
   cases bs with
   |nil=>simp at this
   |cons b bs=>simpa using this
def Quiet (P:Program) (σ:St) (o:Oper) (v:AV):Prop:=∀ σ' xs,readsOf o.op=some xs→σ'.objs=σ.objs→(∀ x ∈ xs,σ'.ev x=σ.ev x)→Local P σ' o v []
theorem dstsL_append:∀ (l m:List Oper),dstsL (l ++ m)=dstsL l ++ dstsL m
 |[],m=>rfl
 |o :: l,m=>by
  simp only [List.cons_append,dstsL,dstsL_append l m]
  split <;> simp
theorem It {α:Type} {l:List α} (h:l.Nodup):l.reverse.Nodup:=List.pairwise_reverse.2 (h.imp fun h e=>h e.symm)
theorem find_rev:∀ (R:List Res) (m:List (Nat × AV)) (t:Nat) (j:Nat) (r:Res),(R.map (·.dst)).Nodup→R[j]?= some r→r.dst=t→Al ((R.map fun r=>(r.dst,r.v)).reverse ++ m) t=some r.v:=by
 intro R m t j r hnd hj hr
 have:∀ (L:List (Nat × AV)),(L.map (·.1)).Nodup→(r.dst,r.v) ∈ L→Al (L ++ m) t=some r.v:=by
  intro L
  induction L with
  |nil=>intro _ h;simp at h
  |cons p L ih =>
   intro h1 h2;obtain ⟨k,u⟩:=p;rw [List.cons_append,A8];simp only [List.map_cons,List.nodup_cons] at h1
   rcases List.mem_cons.1 h2 with h2 | h2
   ·simp only [Prod.mk.injEq] at h2;rw [if_pos (by rw [← h2.1,hr]),h2.2]
   rw [if_neg]
   ·exact ih h1.2 h2
   intro e;subst e;exact h1.1 (List.mem_map.2 ⟨_,h2,hr⟩)
 apply this
 ·rw [List.map_reverse,List.map_map];exact It hnd
 rw [List.mem_reverse];exact List.mem_map.2 ⟨r,List.mem_of_getElem? hj,rfl⟩
theorem find_rev_none:∀ (R:List Res) (m:List (Nat × AV)) (t:Nat),t ∉ R.map (·.dst)→Al ((R.map fun r=>(r.dst,r.v)).reverse ++ m) t=Al m t:=by
 intro R m t h;rw [AZ]
 have:∀ (L:List (Nat × AV)),t ∉ L.map (·.1)→Al L t=none:=by
  intro L
  induction L with
  |nil=>intro _;rfl
  |cons p L ih =>
   intro h;obtain ⟨k,u⟩:=p;simp only [List.map_cons,List.mem_cons,not_or] at h;rw [A8,if_neg (fun e=>h.1 e.symm)];exact ih h.2
 rw [this _ (by rw [List.map_reverse,List.mem_reverse,List.map_map];exact h)]
 simp
theorem find_slotsM_none:∀ (bs:List Bool) (R:List Res) (m:List (Nat × AV)) (t:Nat),t ∉ R.map (·.dst)→Al (slotsM bs R ++ m) t=Al m t:=by
 intro bs R m t h;rw [AZ]
 cases hf:Al (slotsM bs R) t with
 |none=>simp
 |some v =>
  obtain ⟨j,r,_,h2,h3,_⟩:=find_slotsM bs R t v hf;exact absurd (List.mem_map.2 ⟨r,List.mem_of_getElem? h2,h3⟩) h
mutual
theorem Pv {σ σ':St} (h:σ'.objs=σ.objs):∀ v:AV,BA σ' v=BA σ v
 |.als r lo n=>by simp only [BA,h]
 |.adr r i j=>by simp only [BA,h]
 |.agg cs=>by simp only [BA,EP h cs]
 |.tup cs=>by simp only [BA,EP h cs]
 |.fn f first caps=>by simp only [BA,EP h first,EP h caps]
 |.top=>rfl
 |.lit v=>rfl
 |.sh s rows=>rfl
 |.sadr row j=>rfl
 |.hd r=>by simp only [BA,h]
 |.shm s rows=>rfl
 |.rem s la rows=>rfl
theorem EP {σ σ':St} (h:σ'.objs=σ.objs):∀ l:List AV,C7 σ' l=C7 σ l
 |[]=>rfl
 |c :: cs=>by simp only [C7,Pv h c,EP h cs]
end
theorem Quiet.call {P:Program} {σ:St} {o:Oper} {x:Operand} {as:Array Operand} {ts:Array TypeId} {g:FuncId} {first caps:List AV} {vs:List AV} {v v':AV}
 (ho:o.op= .call { callee:= .value x,args:=as,argTypes:=ts }) (hc:calleeOf (σ.ev x)=some (g,first,caps)) (hv:C7 σ (first ++ (as.toList.map σ.ev ++ caps))=some vs) (hF:Fun P g vs (AI v []))
 (hm:closedL (first ++ (as.toList.map σ.ev ++ caps))=true∨noShAV v=true) (hl1:Fl 0 v=some v'):Quiet P σ o v':=by
 intro σ' xs hxs hob he;simp only [ho,readsOf,Option.some.injEq] at hxs;subst hxs;have e1:σ'.ev x=σ.ev x:=he x (by simp);have e2:as.toList.map σ'.ev=as.toList.map σ.ev:=List.map_congr_left fun y hy=>he y (by simp [hy]);refine Local.call (N:=0) (new:=[]) ho (by rw [e1];exact hc) (by rw [e2,EP hob];exact hv) hF ?_ hl1 rfl;rw [e2]
 rcases hm with hm | hm
 ·exact .inl hm
 exact .inr ⟨hm,fun r ob h=>by simp [Al] at h⟩
section rules
variable (P:Program) (l:List Oper) (ops:Array Oper) (gs:List (Option Nat)) (nx n:Nat) (Q:St→Prop) (Fb:List Oper→Nat→St→Prop) (o:Oper) (rest:List Oper) (σ:St)
variable (s:List (Nat × AV)) (b:List (Nat × Obj)) (t e d n':Nat) (v:AV) (new:List (Nat × Obj))
end rules
def AJ (s:List (Nat × AV)):Operand→Option AV
 |.tmp t=>Al s t
 |.const v=>some (.lit v)
 |.global g=>some (Vo g)
 |.func f=>some (.fn (.func f) [] [])
section rules
variable {P:Program} {ops:Array Oper} {rest:List Oper} {s:List (Nat × AV)} {b:List (Nat × Obj)} {n t e id:Nat} {Q:St→Prop} {d ty:Nat} {pos:String} {aft:Array Edge} {g:Option (Nat × Bool)} {op:Op}
variable {x y z:Operand} {u v w:AV} {k k':IntKind} {i j:Int}
theorem AB (h:AJ s x=some v):St.ev ⟨s,b,n,t,e⟩ x=v:=by
 cases x with
 |tmp r=>simp only [AJ] at h;simp [St.ev,St.get,h]
 |const z=>simpa [AJ,St.ev] using h
 |global z=>simpa [AJ,St.ev] using h
 |func z=>simpa [AJ,St.ev] using h
theorem WI (hg:AL (AU ops) ⟨s,b,n,t,e⟩ g=some true) (hd:Nat.blt d t=true) (hq:At P ⟨s,b,n,t,e⟩ n op=some (v,[])) (h:SeqL P ops rest ⟨(d,v) :: s,b,n,t,e⟩ Q) :
 SeqL P ops (⟨some d,op,ty,pos,aft,g⟩ :: rest) ⟨s,b,n,t,e⟩ Q:=by
 have hw:Writer P ⟨s,b,n,t,e⟩ ⟨some d,op,ty,pos,aft,g⟩ ((⟨s,b,n,t,e⟩:St).ext (some d) v [] n):=by
  refine Writer.of_local (EO hq) (fun d' e=>?_) (fun r o h=>by simp [Al] at h) (Nat.le_refl _);simp only [Option.some.injEq] at e;subst e;exact Nat.le_of_ble_eq_true hd
 exact SeqL.write hg hw h
theorem XU {o:Obj} (hq:At P ⟨s,b,n,t,e⟩ n op=some (v,[(n,o)])) (hg:AL (AU ops) ⟨s,b,n,t,e⟩ g=some true) (hd:Nat.blt d t=true) (h:SeqL P ops rest ⟨(d,v) :: s,(n,o) :: b,n+1,t,e⟩ Q) :
 SeqL P ops (⟨some d,op,ty,pos,aft,g⟩ :: rest) ⟨s,b,n,t,e⟩ Q:=by
 have hw:Writer P ⟨s,b,n,t,e⟩ ⟨some d,op,ty,pos,aft,g⟩ ((⟨s,b,n,t,e⟩:St).ext (some d) v [(n,o)] (n+1)):=by
  refine Writer.of_local (EO hq) (fun d' e=>?_) (fun r o h=>?_) (Nat.le_succ _)
  ·simp only [Option.some.injEq] at e;subst e;exact Nat.le_of_ble_eq_true hd
  rw [A8] at h
  split at h
  ·show n≤r∧r < n+1;omega
  simp [Al] at h
 exact SeqL.write hg hw h
theorem WK (hg:AL (AU ops) ⟨s,b,n,t,e⟩ g=some false) (hd:Nat.blt d t=true) (h:SeqL P ops rest ⟨(d,(.lit undef)) :: s,b,n,t,e⟩ Q):SeqL P ops (⟨some d,op,ty,pos,aft,g⟩ :: rest) ⟨s,b,n,t,e⟩ Q:=by
 refine SeqL.skip hg (fun d' e=>?_) h;simp only [Option.some.injEq] at e;subst e;exact Nat.le_of_ble_eq_true hd
theorem Af (h:Q ⟨s,b,n,t,e⟩):SeqL P ops [] ⟨s,b,n,t,e⟩ Q:=SeqL.nil h
theorem Og {r ri rj c st:Nat} {slc:Bool} {el sz:Nat} {rows rows':List (List AV)} {cl cl':Bool} {row row' cs:List AV} {b':List (Nat × Obj)} (hg:AL (AU ops) ⟨s,b,n,t,e⟩ g=some true) (hin:(P.info? st).isSome=true)
 (hcl:P.cellsOf st=c) (hx:AJ s x=some (.adr r ri rj)) (hy:AJ s y=some u) (ho:Al b r=some ⟨slc,el,sz,rows,cl⟩) (hrow:rows[ri]?= some row) (hc:cellsAV u=some cs)
 (hchk:(Nat.ble (rj+cs.length) row.length && Nat.beq cs.length c)=true) (hsp:splice row rj cs=row') (hset:rows.set ri row'=rows') (hcl':(cl && closedL cs)=cl') (hdel:Ct b r=b')
 (h:SeqL P ops rest ⟨s,(r,⟨slc,el,sz,rows',cl'⟩) :: b',n,t,e⟩ Q):SeqL P ops (⟨none, .store st x y,ty,pos,aft,g⟩ :: rest) ⟨s,b,n,t,e⟩ Q:=by
 subst hsp hset hcl' hdel;refine SeqL.write hg (KK rfl (σ':=⟨s,(r,⟨slc,el,sz,rows.set ri (splice row rj cs),cl && closedL cs⟩) :: Ct b r,n,t,e⟩) ?_) h;simp only [NW,hin,cond_true,AB hx,AB hy,IY,ho,Option.bind_some,hrow,hc,hcl,hchk,Option.map_some];rfl
theorem YJ {st el c:Nat} {zs:List AV} {hr0:Option Nat} {rows1 rows2 rows:List (List AV)} {c1 c2 cl':Bool} {by':Nat} {b':List (Nat × Obj)} {m:Nat} (hg:AL (AU ops) ⟨s,b,n,t,e⟩ g=some true) (hd:Nat.blt d t=true)
 (hel:A9 P st=some el) (hze:AK P el=some zs) (hcl:P.cellsOf el=c) (hby:P.bytesOf el=by') (hz:(Nat.beq zs.length c && !Nat.beq c 0)=true)
 (hx:AJ s x=some u) (hy:AJ s y=some v) (hh:Fj ⟨s,b,n,t,e⟩ el c u=some (hr0,rows1,c1)) (hr:IW ⟨s,b,n,t,e⟩ v=some (c,rows2,c2)) (hw:Gc ⟨s,b,n,t,e⟩ v=true)
 (hlen:rows1.length+rows2.length=m) (hm1:m * by'≤140737488355328) (hm2:m≤140737488355328) (hrs:rows1 ++ rows2=rows) (hcl':(c1 && c2)=cl') (hb':St.drop1 ⟨s,b,n,t,e⟩ hr0=b')
 (h:SeqL P ops rest ⟨(d, .als n 0 m) :: s,(n,⟨true,el,c,rows,cl'⟩) :: b',n+1,t,e⟩ Q) :
 SeqL P ops (⟨some d, .call { callee:= .builtin .append,args:= #[x,y],argTypes:= #[st,st] },ty,pos,aft,g⟩ :: rest) ⟨s,b,n,t,e⟩ Q:=by
 subst hrs hcl' hb' hlen;have hd':QV ⟨s,b,n,t,e⟩ (some d)=true:=hd;refine SeqL.write hg (KK hd' (σ':=⟨(d, .als n 0 (rows1.length+rows2.length)) :: s,(n,⟨true,el,c,rows1 ++ rows2,c1 && c2⟩) :: St.drop1 ⟨s,b,n,t,e⟩ hr0,n+1,t,e⟩) ?_) h
 have e1:Nat.ble ((rows1.length+rows2.length) * by') 140737488355328=true:=by rw [Nat.ble_eq];exact hm1
 have e2:Nat.ble (rows1.length+rows2.length) 140737488355328=true:=by rw [Nat.ble_eq];exact hm2
 simp only [Bool.and_eq_true] at hz;simp only [NW,H1,Nat.beq_refl,Bool.true_and,AB hx,AB hy,hw,cond_true,Je,hel,Option.bind_some,hze,hcl,hby,hh,hr,hz.1,hz.2,e1,e2,Bool.and_self,Bool.and_true];rfl
section draws
variable {l:List Oper} {gs:List (Option Nat)} {nx K c:Nat} {Fb:List Oper→Nat→St→Prop}
end draws
theorem Xu (hx:AJ s x=some v):At P ⟨s,b,n,t,e⟩ id (.move x)=some (v,[]):=by simp only [At,AB hx]
theorem UI (hx:AJ s x=some v):At P ⟨s,b,n,t,e⟩ id (.assign x)=some (v,[]):=by simp only [At,AB hx]
theorem UM (hz:AJ s z=some (.lit (.bool true))) (hx:AJ s x=some v):At P ⟨s,b,n,t,e⟩ id (.pick z x y)=some (v,[]):=by simp only [At,AB hz,AB hx,if_true]
theorem UL (hz:AJ s z=some (.lit (.bool false))) (hy:AJ s y=some v):At P ⟨s,b,n,t,e⟩ id (.pick z x y)=some (v,[]):=by simp only [At,AB hz,AB hy,Bool.false_eq_true,if_false]
variable {r ri rj rj':Nat}
theorem Y1 (hx:AJ s x=some (.lit (.int k i))) (hy:AJ s y=some (.lit (.int k j))):At P ⟨s,b,n,t,e⟩ id (.binOp .lss ty x y d)=some (.lit (.bool (decide (i < j))),[]):=by simp only [At,AB hx,AB hy,toVal,bin_lss,C0,Option.map_some]
theorem Y0 (hx:AJ s x=some (.lit (.int k i))) (hy:AJ s y=some (.lit (.int k j))):At P ⟨s,b,n,t,e⟩ id (.binOp .leq ty x y d)=some (.lit (.bool (decide (i≤j))),[]):=by simp only [At,AB hx,AB hy,toVal,bin_leq,C0,Option.map_some]
theorem Yx (hx:AJ s x=some (.lit (.int k i))) (hy:AJ s y=some (.lit (.int k j))):At P ⟨s,b,n,t,e⟩ id (.binOp .gtr ty x y d)=some (.lit (.bool (decide (j < i))),[]):=by simp only [At,AB hx,AB hy,toVal,bin_gtr,C0,Option.map_some]
theorem Yw (hx:AJ s x=some (.lit (.int k i))) (hy:AJ s y=some (.lit (.int k j))):At P ⟨s,b,n,t,e⟩ id (.binOp .geq ty x y d)=some (.lit (.bool (decide (j≤i))),[]):=by simp only [At,AB hx,AB hy,toVal,bin_geq,C0,Option.map_some]
theorem Yu (hx:AJ s x=some (.lit (.int k i))) (hy:AJ s y=some (.lit (.int k j))):At P ⟨s,b,n,t,e⟩ id (.binOp .eql ty x y d)=some (.lit (.bool (decide (i=j))),[]):=by simp only [At,AB hx,AB hy,toVal,bin_eql,C0,Option.map_some]
theorem Y7 (hx:AJ s x=some (.lit (.int k i))) (hy:AJ s y=some (.lit (.int k j))):At P ⟨s,b,n,t,e⟩ id (.binOp .neq ty x y d)=some (.lit (.bool (!decide (i=j))),[]):=by simp only [At,AB hx,AB hy,toVal,bin_neq,C0,Option.map_some]
theorem Ys (hx:AJ s x=some (.lit (.int .i64 i))) (hy:AJ s y=some (.lit (.int .i64 j))) (h1: -9223372036854775808≤i+j) (h2:i+j≤9223372036854775807):At P ⟨s,b,n,t,e⟩ id (.binOp .add ty x y d)=some (.lit (.int .i64 (i+j)),[]):=by simp only [At,AB hx,AB hy,toVal,bin_add,C0,Option.map_some,G7 h1 h2]
theorem YA (hx:AJ s x=some (.lit (.int .i64 i))) (hy:AJ s y=some (.lit (.int .i64 j))) (h1: -9223372036854775808≤i - j) (h2:i - j≤9223372036854775807):At P ⟨s,b,n,t,e⟩ id (.binOp .sub ty x y d)=some (.lit (.int .i64 (i - j)),[]):=by simp only [At,AB hx,AB hy,toVal,bin_sub,C0,Option.map_some,G7 h1 h2]
theorem Y4 (hx:AJ s x=some (.lit (.int .i64 i))) (hy:AJ s y=some (.lit (.int .i64 j))) (h1: -9223372036854775808≤i * j) (h2:i * j≤9223372036854775807):At P ⟨s,b,n,t,e⟩ id (.binOp .mul ty x y d)=some (.lit (.int .i64 (i * j)),[]):=by simp only [At,AB hx,AB hy,toVal,bin_mul,C0,Option.map_some,G7 h1 h2]
theorem Y8 (hx:AJ s x=some (.lit (.int .i64 i))) (hy:AJ s y=some (.lit (.int .i64 j))) (h1:0≤i) (h2:i≤9223372036854775807) (h3:0 < j):At P ⟨s,b,n,t,e⟩ id (.binOp .quo ty x y d)=some (.lit (.int .i64 (i / j)),[]):=by
 have h4:0≤i / j:=Int.ediv_nonneg h1 (by omega);have h5:i / j≤i:=Int.ediv_le_self j h1;simp only [At,AB hx,AB hy,toVal,VE _ _ _ _ _ _ _ (show j≠0 by omega),C0,Option.map_some,Wn h1,G7 (show -9223372036854775808≤i / j by omega) (show i / j≤9223372036854775807 by omega)]
theorem Y9 (hx:AJ s x=some (.lit (.int .i64 i))) (hy:AJ s y=some (.lit (.int .i64 j))) (h1:0≤i) (h3:j≠0):At P ⟨s,b,n,t,e⟩ id (.binOp .rem ty x y d)=some (.lit (.int .i64 (i % j)),[]):=by simp only [At,AB hx,AB hy,toVal,VF _ _ _ _ _ _ _ h3,C0,Option.map_some,Wt h1]
theorem Y6 (hx:AJ s x=some (.lit (.int .i64 i))) (h1: -9223372036854775808≤0 - i) (h2:0 - i≤9223372036854775807):At P ⟨s,b,n,t,e⟩ id (.unOp .neg ty x)=some (.lit (.int .i64 (0 - i)),[]):=by simp only [At,AB hx,toVal,Option.bind_some,una_neg,C0,Option.map_some,G7 h1 h2]
theorem RB {c:Bool} (hx:AJ s x=some (.lit (.bool c))):At P ⟨s,b,n,t,e⟩ id (.unOp .not ty x)=some (.lit (.bool (!c)),[]):=by simp only [At,AB hx,toVal,Option.bind_some,Wv,C0,Option.map_some]
theorem Y2 {ts:Array TypeId} (hx:AJ s x=some (.lit (.int k i))) (hy:AJ s y=some (.lit (.int k j))):At P ⟨s,b,n,t,e⟩ id (.call { callee:= .builtin .max,args:= #[x,y],argTypes:=ts })=some (.lit (.int k (max i j)),[]):=by
 simp only [At,Bz,List.map_cons,List.map_nil,AB hx,AB hy,toVals,toVal,Option.bind_some,Uu,C0,Option.map_some]
theorem Y3 {ts:Array TypeId} (hx:AJ s x=some (.lit (.int k i))) (hy:AJ s y=some (.lit (.int k j))):At P ⟨s,b,n,t,e⟩ id (.call { callee:= .builtin .min,args:= #[x,y],argTypes:=ts })=some (.lit (.int k (min i j)),[]):=by
 simp only [At,Bz,List.map_cons,List.map_nil,AB hx,AB hy,toVals,toVal,Option.bind_some,Uv,C0,Option.map_some]
theorem R9 {st el m:Nat} (he:A9 P st=some el) (hx:AJ s x=some u) (hl:lenAV u=some m):At P ⟨s,b,n,t,e⟩ id (.call { callee:= .builtin .len,args:= #[x],argTypes:= #[st] })=some (.lit (.int .i64 (m:Int)),[]):=by
 simp only [At,Bz,he,AB hx,hl,Option.map_some]
theorem Pc {sd dd:TypeId} (hd:P.underlying dd=some (.int k')) (hs:(P.underlying sd).isSome=true) (hx:AJ s x=some (.lit (.int k i))) (hw:k'.wrap i=j):At P ⟨s,b,n,t,e⟩ id (.convert sd dd x)=some (.lit (.int k' j),[]):=by
 simp only [At,AB hx,toVal,Option.bind_some,TY P k i sd dd k' hd hs,C0,Option.map_some,hw]
theorem MA {lt:Nat} {cs:List AV} (ha:Bi P lt=some false) (hx:AJ s x=some u) (hc:CM ⟨s,b,n,t,e⟩ u=some (v :: cs)):At P ⟨s,b,n,t,e⟩ id (.load lt x)=some (v,[]):=by simp only [At,AB hx,EI,ha,hc,Dx,Option.map_some]
theorem Q3 {lt c:Nat} {cs cs':List AV} (ha:Bi P lt=some true) (hcl:P.cellsOf lt=c) (hx:AJ s x=some u) (hc:CM ⟨s,b,n,t,e⟩ u=some cs) (hl:Nat.ble c cs.length=true) (ht:cs.take c=cs'):At P ⟨s,b,n,t,e⟩ id (.load lt x)=some (.agg cs',[]):=by
 subst ht;simp only [At,AB hx,EI,ha,hc,hcl,hl,cond_true,Dx,Option.map_some]
theorem YT {st f off ft c:Nat} (hf:AX P st f=some (off,ft)) (hcl:P.cellsOf ft=c) (hc:Nat.beq c 0=false) (hx:AJ s x=some (.adr r ri rj)) (hj:rj+off=rj'):At P ⟨s,b,n,t,e⟩ id (.fieldAddr st x f)=some (.adr r ri rj',[]):=by
 subst hj;simp only [At,hf,Option.bind_some,hcl,hc,cond_false,AB hx,Gu,Dx,Option.map_some]
theorem Yv {st f off ft c:Nat} {row:List AV} (hf:AX P st f=some (off,ft)) (hcl:P.cellsOf ft=c) (hc:Nat.beq c 0=false) (hx:AJ s x=some (.sadr row rj)) (hj:rj+off=rj'):At P ⟨s,b,n,t,e⟩ id (.fieldAddr st x f)=some (.sadr row rj',[]):=by
 subst hj;simp only [At,hf,Option.bind_some,hcl,hc,cond_false,AB hx,Gu,Dx,Option.map_some]
theorem Wg {st f off ft:Nat} {cs:List AV} (hf:AX P st f=some (off,ft)) (hx:AJ s x=some (.agg cs)) (hp:JZ P ft cs off=some v):At P ⟨s,b,n,t,e⟩ id (.field st x f)=some (v,[]):=by simp only [At,hf,Option.bind_some,AB hx,hp,Dx,Option.map_some]
theorem YU {st el c m lo m':Nat} {o:Obj} (hel:A9 P st=some el) (hcl:P.cellsOf el=c) (hc:Nat.beq c 0=false) (hx:AJ s x=some (.als r lo m)) (hy:AJ s y=some (.lit (.int k i))) (ho:Al b r=some o) (hsz:o.sz=c) (h0:0≤i) (h1:i < m) (hm:lo+i.toNat=m'):At P ⟨s,b,n,t,e⟩ id (.indexAddr st x y)=some (.adr r m' 0,[]):=by
 subst hm hsz;simp only [At,AB hy,hel,hcl,hc,cond_false,AB hx,EL,ho,Option.bind_some,Nat.beq_refl,cond_true,h0,h1,and_self,if_true,Dx,Option.map_some]
theorem Yz {st el c:Nat} {rows:List (List AV)} {row:List AV} (hel:A9 P st=some el) (hcl:P.cellsOf el=c) (hc:Nat.beq c 0=false) (hx:AJ s x=some (.sh c rows)) (hy:AJ s y=some (.lit (.int k i))) (h0:0≤i) (hr:rows[i.toNat]?= some row):At P ⟨s,b,n,t,e⟩ id (.indexAddr st x y)=some (.sadr row 0,[]):=by
 simp only [At,AB hy,hel,Option.bind_some,hcl,hc,cond_false,AB hx,EL,Nat.beq_refl,cond_true,h0,if_true,hr,Dx,Option.map_some]
theorem We {at':Nat} {cs:List AV} {c:Nat} (hz:AK P at'=some cs) (hc:cs.length=c):At P ⟨s,b,n,t,e⟩ id (.alloc at')=some (.adr id 0 0,[(id,⟨false,at',c,[cs],true⟩)]):=by
 subst hc;simp only [At,hz,Option.map_some]
theorem Yt {bt:Nat} {cs:List AV} {c:Nat} {cl:Bool} (hx:AJ s x=some u) (hc:cellsAV u=some cs) (hl:cs.length=c) (hcl:closedL cs=cl):At P ⟨s,b,n,t,e⟩ id (.box bt x)=some (.adr id 0 0,[(id,⟨false,bt,c,[cs],cl⟩)]):=by
 subst hl hcl;simp only [At,AB hx,hc,Option.map_some]
theorem Ti {c:Nat} {vs:List AV} (hx:AJ s x=some (.tup vs)) (hv:vs[c]?= some v):At P ⟨s,b,n,t,e⟩ id (.extract x c)=some (v,[]):=by simp only [At,AB hx,hv,Dx,Option.map_some]
theorem YV {ri':Nat} (hx:AJ s x=some (.adr r ri' rj)):At P ⟨s,b,n,t,e⟩ id (.nilCheck x)=some (.adr r ri' rj,[]):=by simp only [At,AB hx]
theorem Y5 {row:List AV} (hx:AJ s x=some (.sadr row rj)):At P ⟨s,b,n,t,e⟩ id (.nilCheck x)=some (.sadr row rj,[]):=by simp only [At,AB hx]
def IB (s:List (Nat × AV)):List (Nat × Operand)→Option (List (Nat × AV))
 |[]=>some []
 |p :: l=>match AJ s p.2,IB s l with
  |some v,some vs=>some ((p.1,v) :: vs)
  |_,_=>none
theorem opvs_ev:∀ {l:List (Nat × Operand)} {vs:List (Nat × AV)},IB s l=some vs→(l.map fun p=>(p.1,St.ev ⟨s,b,n,t,e⟩ p.2))=vs
 |[],vs,h=>by simp only [IB,Option.some.injEq] at h;simp [h]
 |p :: l,vs,h=>by
  simp only [IB] at h
  split at h
  ·rename_i v vs' h1 h2
   simp only [Option.some.injEq] at h;subst h;rw [List.map_cons,AB h1,opvs_ev h2]
  ·cases h
def JY (s:List (Nat × AV)):List Operand→Option (List AV)
 |[]=>some []
 |x :: l=>match AJ s x,JY s l with
  |some v,some vs=>some (v :: vs)
  |_,_=>none
theorem opvl_ev:∀ {l:List Operand} {vs:List AV},JY s l=some vs→l.map (St.ev ⟨s,b,n,t,e⟩)=vs
 |[],vs,h=>by simp only [JY,Option.some.injEq] at h;simp [h]
 |x :: l,vs,h=>by
  simp only [JY] at h
  split at h
  ·rename_i v vs' h1 h2
   simp only [Option.some.injEq] at h;subst h;rw [List.map_cons,AB h1,opvl_ev h2]
  ·cases h
theorem Wf {bt:Nat} {parts:List (Nat × Operand)} {zs cs:List AV} {pl:List (Nat × Nat)} {vs:List (Nat × AV)} (hz:AK P bt=some zs) (hpl:Ci P bt=some pl) (hp:IB s parts=some vs) (hf:FD (fun i=>pl[i]?) zs vs=some cs):At P ⟨s,b,n,t,e⟩ id (.build bt ⟨parts⟩)=some (.agg cs,[]):=by
 simp only [At,IR,hz,hpl,Option.bind_some,opvs_ev hp,hf,Option.map_some,Dx]
theorem UJ {bt el len c:Nat} {parts:List (Nat × Operand)} {zs cs:List AV} {vs:List (Nat × AV)} (hz:AK P bt=some zs) (hpl:Ci P bt=none) (har:E7 P bt=some (len,el)) (hcl:P.cellsOf el=c) (hc:Nat.beq c 0=false) (hp:IB s parts=some vs) (hf:FD (fun k=>some (k * c,c)) zs vs=some cs):At P ⟨s,b,n,t,e⟩ id (.build bt ⟨parts⟩)=some (.agg cs,[]):=by
 simp only [At,IR,hz,hpl,har,hcl,hc,cond_false,Option.bind_some,opvs_ev hp,hf,Option.map_some,Dx]
theorem Yy {st el len c:Nat} (hel:A9 P st=none) (har:E7 P st=some (len,el)) (hcl:P.cellsOf el=c) (hc:Nat.beq c 0=false) (hx:AJ s x=some (.adr r ri rj)) (hy:AJ s y=some (.lit (.int k i))) (h0:0≤i) (h1:i < len) (hj:rj+i.toNat * c=rj'):At P ⟨s,b,n,t,e⟩ id (.indexAddr st x y)=some (.adr r ri rj',[]):=by
 subst hj;simp only [At,AB hy,hel,QI,har,Option.bind_some,hcl,hc,cond_false,AB hx,h0,h1,and_self,if_true,Gu,Dx,Option.map_some]
theorem Pb {bt el len c:Nat} {parts:List (Nat × Operand)} {zs:List AV} {rows:List (List AV)} {vs:List (Nat × AV)} {cl:Bool} (hel:A9 P bt=some el) (hz:AK P el=some zs) (hcl:P.cellsOf el=c) (hp:IB s parts=some vs) (hr:GS c 0 vs=some rows) (hc:(Nat.beq zs.length c && !Nat.beq c 0 && Nat.beq rows.length len && Nat.ble (len * c) 16777216)=true) (hcc:closedR rows=cl):At P ⟨s,b,n,t,e⟩ id (.buildSlice bt len ⟨parts⟩)=some (.als id 0 len,[(id,⟨true,el,c,rows,cl⟩)]):=by
 subst hcc;simp only [At,hel,Option.bind_some,hz,hcl,opvs_ev hp,hr,hc,cond_true]
theorem RA {f:Fn} {first caps:List Operand} {vs ws:List AV} (h1:JY s first=some vs) (h2:JY s caps=some ws):At P ⟨s,b,n,t,e⟩ id (.makeFunc f ⟨first⟩ ⟨caps⟩)=some (.fn f vs ws,[]):=by simp only [At,opvl_ev h1,opvl_ev h2]
def HH (s:List (Nat × AV)) (d:Nat):Option Operand→Option Int
 |none=>some d
 |some x=>match AJ s x with
  |some (.lit (.int _ n))=>some n
  |_=>none
theorem Kp {dd m:Nat} {z:Int} {xo:Option Operand} (h:HH s dd xo=some z) (h0:0≤z) (hm:z.toNat=m):CN ⟨s,b,n,t,e⟩ dd xo=some m:=by
 subst hm
 cases xo with
 |none=>simp only [HH,Option.some.injEq] at h;subst h;simp [CN]
 |some x =>
  simp only [HH] at h
  split at h
  ·rename_i k' n' hx
   simp only [Option.some.injEq] at h;subst h;simp only [CN,AB hx,h0,if_true]
  cases h
theorem Wh {st el c lo0 m l' h':Nat} {zl zh:Int} {lo hi:Option Operand} {o:Obj} {lo1 m1:Nat} (hel:A9 P st=some el) (hcl:P.cellsOf el=c) (hc:Nat.beq c 0=false) (hx:AJ s x=some (.als r lo0 m)) (hlo:HH s 0 lo=some zl) (hhi:HH s m hi=some zh) (h0:0≤zl) (h1:zl≤zh) (h2:zh≤m) (ho:Al b r=some o) (hsz:o.sz=c) (e1:lo0+zl.toNat=lo1) (e2:zh.toNat - zl.toNat=m1):At P ⟨s,b,n,t,e⟩ id (.slice st x lo hi none)=some (.als r lo1 m1,[]):=by
 subst e1 e2 hsz
 have hh:zl.toNat≤zh.toNat∧zh.toNat≤m:=by omega
 simp only [At,hel,hcl,hc,cond_false,AB hx,lenAV,Option.bind_some,Kp hlo h0 rfl,Kp hhi (by omega) rfl,ho,Nat.beq_refl,cond_true,Ew,hh,and_self,if_true,Dx,Option.map_some]
theorem UN {st el c l' h':Nat} {zl zh:Int} {lo hi:Option Operand} {rows rows':List (List AV)} (hel:A9 P st=some el) (hcl:P.cellsOf el=c) (hc:Nat.beq c 0=false) (hx:AJ s x=some (.sh c rows)) (hlo:HH s 0 lo=some zl) (hhi:HH s rows.length hi=some zh) (h0:0≤zl) (h1:zl≤zh) (h2:zh≤rows.length) (e1:(rows.drop zl.toNat).take (zh.toNat - zl.toNat)=rows'):At P ⟨s,b,n,t,e⟩ id (.slice st x lo hi none)=some (.sh c rows',[]):=by
 subst e1
 have hh:zl.toNat≤zh.toNat∧zh.toNat≤rows.length:=by omega
 simp only [At,hel,hcl,hc,cond_false,AB hx,lenAV,Option.bind_some,Kp hlo h0 rfl,Kp hhi (by omega) rfl,Nat.beq_refl,cond_true,Ew,hh,and_self,if_true,Dx,Option.map_some]
theorem UK {st f off ft:Nat} {cs:List AV} (hf:AX P st f=some (off,ft)) (ha:Bi P ft=some false) (hx:AJ s x=some (.agg cs)) (hv:cs[off]?= some v):At P ⟨s,b,n,t,e⟩ id (.field st x f)=some (v,[]) :=
 Wg hf hx (by simp only [JZ,ha];exact hv)
theorem GI {o:Obj} {row row':List AV} (ho:Al b r=some o) (hr:o.rows[ri]?= some row) (hd:row.drop rj=row'):CM ⟨s,b,n,t,e⟩ (.adr r ri rj)=some row':=by simp [CM,ho,hr,hd]
theorem Lw {row row':List AV} (hd:row.drop rj=row'):CM ⟨s,b,n,t,e⟩ (.sadr row rj)=some row':=by simp [CM,hd]
theorem Ah {P:Program} {σ:St} {Q:Exit→St→Prop} {id:Nat} {l:List Oper} (h:∀ K:St→Prop,(∀ σ',Q .normal σ'→K σ')→SeqL P ⟨l⟩ l σ K):Ev P (.region id ⟨l⟩ false) σ Q:=P8 h
theorem S7 {m r:Nat} {o ob:Obj} (h:Al [(m,o)] r=some ob):r < m+1:=by
 rw [A8] at h
 split at h
 ·omega
 simp [Al] at h
theorem Ug {el c m:Nat} {rows:List (List AV)} {cl:Bool} (ho:Al b r=some ⟨true,el,c,rows,cl⟩) (hm:rows.length=m):Fj ⟨s,b,n,t,e⟩ el c (.als r 0 m)=some (some r,rows,cl):=by
 subst hm
 simp [Fj,ho,Nat.beq_refl]
theorem UR {slc:Bool} {el c m:Nat} {rows:List (List AV)} {cl:Bool} (ho:Al b r=some ⟨slc,el,c,rows,cl⟩) (hm:rows.length=m):IW ⟨s,b,n,t,e⟩ (.als r 0 m)=some (c,rows,cl):=by
 subst hm
 simp [IW,ho]
theorem RY {slc:Bool} {el c m:Nat} {rows:List (List AV)} {cl:Bool} (ho:Al b r=some ⟨slc,el,c,rows,cl⟩) (hm:rows.length=m):Gc ⟨s,b,n,t,e⟩ (.als r 0 m)=true:=by
 subst hm
 simp [Gc,ho,VI]
end rules
section late
variable {P:Program} {l:List Oper} {T:List (List Bool)} {K:Nat}
theorem Mf {σ:St} {nx:Nat} {R:List Res} {listed:Array Bool} {i:Nat} {ri:Res} (hnd:(R.map (·.dst)).Nodup) (hRi:R[i]?= some ri) (hlt:i < listed.size) :
 ∀ s v,Al (C5 σ (R.map (·.dst)) nx (B4 K (listed.setIfInBounds i true)) R).slots s=some v→Al ((ri.dst,ri.v) :: (C5 σ (R.map (·.dst)) nx (B4 K listed) R).slots) s=some v:=by
 have hbn:∀ j:Nat,(B4 K (listed.setIfInBounds i true))[j]?= some true→j=i∨(B4 K listed)[j]?= some true:=by
  intro j hj;obtain ⟨g1,g2⟩:=Co.1 hj;rw [CI hlt] at g2
  by_cases e:i=j
  ·exact .inl e.symm
  rw [if_neg e] at g2;exact .inr (Co.2 ⟨g1,g2⟩)
 intro s v hv;simp only [C5] at hv ⊢;rw [A8];rw [AZ] at hv
 cases g1:Al (slotsM (B4 K (listed.setIfInBounds i true)) R) s with
 |some u =>
  rw [g1] at hv;simp only [Option.some_or,Option.some.injEq] at hv;subst hv;obtain ⟨j,q,k1,k2,rfl,rfl⟩:=find_slotsM _ R s u g1
  rcases hbn j k1 with rfl | k1
  ·rw [hRi] at k2;simp only [Option.some.injEq] at k2;subst k2
   simp
  by_cases e:ri.dst=q.dst
  ·rw [if_pos e]
   have hij:i=j:=by
    have e1:(R.map (·.dst))[i]?= some ri.dst:=by simp [hRi]
    have e2:(R.map (·.dst))[j]?= some ri.dst:=by simp [k2,e]
    obtain ⟨q1,q2⟩:=List.getElem?_eq_some_iff.1 e1;obtain ⟨q3,q4⟩:=List.getElem?_eq_some_iff.1 e2;exact (List.getElem_inj hnd).1 (q2.trans q4.symm)
   subst hij;rw [hRi] at k2;simp only [Option.some.injEq] at k2;rw [k2]
  rw [if_neg e,AZ,slotsM_find _ R j q hnd k1 k2];rfl
 |none =>
  rw [g1] at hv;simp only [Option.none_or] at hv;have hh:=hv;rw [Fi] at hh
  split at hh
  ·cases hh
  rename_i hmem
  have hne:ri.dst≠s:=fun e=>hmem (List.mem_map.2 ⟨ri,List.mem_of_getElem? hRi,e⟩);rw [if_neg hne,AZ]
  cases g2:Al (slotsM (B4 K listed) R) s with
  |some u =>
   obtain ⟨j,q,k1,k2,rfl,rfl⟩:=find_slotsM _ R s u g2;exact absurd (List.mem_map.2 ⟨q,List.mem_of_getElem? k2,rfl⟩) hmem
  |none=>simpa using hv
theorem Ni {σ:St} {nx:Nat} {R:List Res} {listed:Array Bool} {i:Nat} {ri:Res} (hid:∀ (m:Nat) (q:Res),R[m]?= some q→∀ k o,Al q.new k=some o→σ.next+4 * (0+m)≤k∧k < σ.next+4 * (0+m)+4)
 (hσ:∀ k o,Al σ.objs k=some o→k < σ.next) (hRi:R[i]?= some ri) (hlt:i < listed.size) :
 ∀ k ob,Al (objsM (B4 K (listed.setIfInBounds i true)) R ++ σ.objs) k=some ob→Al (ri.new ++ (objsM (B4 K listed) R ++ σ.objs)) k=some ob:=by
 have hbn:∀ j:Nat,(B4 K (listed.setIfInBounds i true))[j]?= some true→j=i∨(B4 K listed)[j]?= some true:=by
  intro j hj;obtain ⟨g1,g2⟩:=Co.1 hj;rw [CI hlt] at g2
  by_cases e:i=j
  ·exact .inl e.symm
  rw [if_neg e] at g2;exact .inr (Co.2 ⟨g1,g2⟩)
 intro k ob hv;rw [AZ] at hv;rw [AZ]
 cases g1:Al (objsM (B4 K (listed.setIfInBounds i true)) R) k with
 |some u =>
  rw [g1] at hv;simp only [Option.some_or,Option.some.injEq] at hv;subst hv;obtain ⟨j,q,k1,k2,k3⟩:=find_objsM _ R k u g1
  rcases hbn j k1 with rfl | k1
  ·rw [hRi] at k2;simp only [Option.some.injEq] at k2;subst k2;rw [k3];rfl
  by_cases e:j=i
  ·subst e;rw [hRi] at k2;simp only [Option.some.injEq] at k2;subst k2;rw [k3];rfl
  have hnone:Al ri.new k=none:=by
   cases g2:Al ri.new k with
   |none=>rfl
   |some ob' =>
    have r1:=hid i ri hRi k ob' g2;have r2:=hid j q k2 k u k3;omega
  rw [hnone,AZ,Gq σ.next _ R 0 j q k u hid k1 k2 k3];rfl
 |none =>
  rw [g1] at hv;simp only [Option.none_or] at hv;have hklt:=hσ k ob hv
  have hnone:Al ri.new k=none:=by
   cases g2:Al ri.new k with
   |none=>rfl
   |some ob' =>
    have r1:=hid i ri hRi k ob' g2;omega
  rw [hnone,AZ]
  cases g2:Al (objsM (B4 K listed) R) k with
  |some u =>
   obtain ⟨j,q,k1,k2,k3⟩:=find_objsM _ R k u g2;have:=hid j q k2 k u k3;omega
  |none=>simpa using hv
theorem Ot {listed:Array Bool} {m n:Nat} (hsz:listed.size=n) (hm:m≤n) (hd:∀ j,j < n→listed.getD j false=decide (j < m)):(List.range n).countP (fun j=> !listed.getD j true)=n - m:=by
 have e1:(List.range n).countP (fun j=> !listed.getD j true)=(List.range n).countP (fun j=>decide (m≤j)):=by
  apply List.countP_congr
  intro j hj
  have hj':j < n:=by simpa using hj
  rw [Dq (by omega),hd j hj']
  simp
 rw [e1]
 have:∀ k,(List.range k).countP (fun j=>decide (m≤j))=k - m:=by
  intro k
  induction k with
  |zero=>simp
  |succ k ihn =>
   rw [List.range_succ,List.countP_append,ihn,List.countP_singleton]
   by_cases h:m≤k
   ·simp [h];omega
   simp [h];omega
 exact this _
end late
def Gz (l:List Oper) (T:List (List Bool)) (σ:St) (K:Nat):Bool :=
 JE l T (K+1) && Nat.ble (K+1) l.length && (let ds:=dstsL (l.take K);Oy ds σ.slots && decide ds.Nodup && ds.all (fun d=>Nat.blt d σ.nt))
def bitsL:Nat→Nat→List Bool
 |0,_=>[]
 |k+1,m=>Nat.beq (m % 2) 1 :: bitsL k (m / 2)
def tbs:List (Nat × Nat)→List (List Bool)
 |[]=>[]
 |p :: l=>bitsL p.1 p.2 :: tbs l
def readsM:Op→Option (List Operand)
 |.alloc _=>some []
 |.box _ x=>some [x]
 |.buildSlice _ _ parts=>some (parts.toList.map (·.2))
 |.lookup _ x i _=>some [x,i]
 |.makeSlice _ x y=>some [x,y]
 |.entry x=>some [x]
 |op=>readsOf op
def Jz (b b':List (Nat × Obj)):Prop:=∀ r o,Al b r=some o→Al b' r=some o
section mono
variable {P:Program} {σ σ':St}
theorem Mu (h:Jz σ.objs σ'.objs) {v:AV} {cs:List AV} (hv:CM σ v=some cs):CM σ' v=some cs:=by
 cases v <;> simp only [CM] at hv ⊢ <;> try exact hv
 case adr r i j =>
  simp only [Option.bind_eq_some_iff] at hv ⊢;obtain ⟨o,ho,hv⟩:=hv;exact ⟨o,h r o ho,hv⟩
theorem PT (h:Jz σ.objs σ'.objs) {t:TypeId} {v u:AV} (hv:EI P σ t v=some u):EI P σ' t v=some u:=by
 unfold EI at hv ⊢
 cases hc:CM σ v with
 |none=>rw [hc] at hv;split at hv <;> simp_all
 |some cs=>rw [hc] at hv;rw [Mu h hc];exact hv
theorem O6 (h:Jz σ.objs σ'.objs) {sz:Nat} {v u:AV} {n:Int} (hv:EL σ sz v n=some u):EL σ' sz v n=some u:=by
 cases v <;> simp only [EL] at hv ⊢ <;> try exact hv
 case als r lo m =>
  simp only [Option.bind_eq_some_iff] at hv ⊢;obtain ⟨o,ho,hv⟩:=hv;exact ⟨o,h r o ho,hv⟩
mutual
theorem Qd (h:Jz σ.objs σ'.objs):∀ {v u:AV},BA σ v=some u→BA σ' v=some u
 |.als r lo n,u,hv=>by
  simp only [BA,Option.bind_eq_some_iff] at hv ⊢;obtain ⟨o,ho,hv⟩:=hv;exact ⟨o,h r o ho,hv⟩
 |.adr r i j,u,hv=>by
  simp only [BA,Option.bind_eq_some_iff] at hv ⊢;obtain ⟨o,ho,hv⟩:=hv;exact ⟨o,h r o ho,hv⟩
 |.agg cs,u,hv=>by
  simp only [BA,Option.map_eq_some_iff] at hv ⊢;obtain ⟨cs',hc,rfl⟩:=hv;exact ⟨cs',F6 h hc,rfl⟩
 |.tup cs,u,hv=>by
  simp only [BA,Option.map_eq_some_iff] at hv ⊢;obtain ⟨cs',hc,rfl⟩:=hv;exact ⟨cs',F6 h hc,rfl⟩
 |.fn f first caps,u,hv=>by
  simp only [BA] at hv ⊢
  split at hv
  ·rename_i x y h1 h2
   rw [F6 h h1,F6 h h2];exact hv
  ·cases hv
 |.top,u,hv=>hv
 |.lit v,u,hv=>hv
 |.sh s rows,u,hv=>hv
 |.sadr row j,u,hv=>hv
 |.hd r,u,hv=>by
  simp only [BA,Option.bind_eq_some_iff] at hv ⊢;obtain ⟨o,ho,hv⟩:=hv;exact ⟨o,h r o ho,hv⟩
 |.shm s rows,u,hv=>hv
 |.rem s la rows,u,hv=>hv
theorem F6 (h:Jz σ.objs σ'.objs):∀ {l m:List AV},C7 σ l=some m→C7 σ' l=some m
 |[],m,hv=>hv
 |c :: cs,m,hv=>by
  simp only [C7] at hv ⊢
  split at hv
  ·rename_i x y h1 h2
   rw [Qd h h1,F6 h h2];exact hv
  ·cases hv
end
theorem JT (h:Jz σ.objs σ'.objs) {v:AV} {q:Nat × List (List AV)} (hv:EN σ v=some q):EN σ' v=some q:=by
 cases v <;> try (simp [EN] at hv;done)
 ·simp only [EN,Option.bind_eq_some_iff] at hv ⊢;obtain ⟨o,ho,hv⟩:=hv;exact ⟨o,h _ o ho,hv⟩
 exact hv
theorem PO (h:Jz σ.objs σ'.objs) {v:AV} {q:AV × List AV} (hv:HR σ v=some q):HR σ' v=some q:=by
 cases v <;> try (simp [HR] at hv;done)
 simp only [HR,Option.bind_eq_some_iff] at hv ⊢;obtain ⟨o,ho,hv⟩:=hv;exact ⟨o,h _ o ho,hv⟩
theorem Jv {op:Op} {xs:List Operand} {id:Nat} {v:AV} {new:List (Nat × Obj)} (hx:readsM op=some xs) (ho:Jz σ.objs σ'.objs) (he:∀ x ∈ xs,σ'.ev x=σ.ev x) (hq:At P σ id op=some (v,new)):At P σ' id op=some (v,new):=by
 cases op <;> try (simp [readsM,readsOf] at hx;done)
 case slice t x lo hi mx =>
  cases mx with
  |some m=>simp [readsM,readsOf] at hx
  |none =>
   simp only [readsM,readsOf,Option.some.injEq] at hx;subst hx;have e1:=he x (by simp)
   have e2:∀ d,CN σ' d lo=CN σ d lo:=by
    intro d
    cases lo with
    |none=>rfl
    |some l=>simp [CN,he l (by simp)]
   have e3:∀ d,CN σ' d hi=CN σ d hi:=by
    intro d
    cases hi with
    |none=>rfl
    |some l=>simp [CN,he l (by simp)]
   have e4:Eu σ' lo=Eu σ lo:=by
    cases lo with
    |none=>rfl
    |some l=>simp [Eu,he l (by simp)]
   have e5:Eu σ' hi=Eu σ hi:=by
    cases hi with
    |none=>rfl
    |some l=>simp [Eu,he l (by simp)]
   simp only [At,e1,e2,e3,e4,e5] at hq ⊢
   split at hq
   ·obtain ⟨hb,hq⟩:=E8 hq;rw [hb];simp only [cond_false];simp only [Option.bind_eq_some_iff] at hq ⊢;obtain ⟨n,hn,l,hl,hh,hhi,hq⟩:=hq;refine ⟨n,hn,l,hl,hh,hhi,?_⟩
    split at hq
    ·simp only [Option.bind_eq_some_iff] at hq ⊢;obtain ⟨o,hob,hq⟩:=hq;exact ⟨o,ho _ o hob,hq⟩
    ·exact hq
    cases hq
   exact hq
 case call c =>
  obtain ⟨callee,as,ts⟩:=c
  cases callee <;> try (simp [readsM,readsOf] at hx;done)
  case builtin b =>
   simp only [readsM,readsOf,Option.some.injEq] at hx;subst hx;have hm:as.toList.map σ'.ev=as.toList.map σ.ev:=List.map_congr_left fun y hy=>he y hy;simp only [At] at hq ⊢
   cases b <;> try (simp [Bz] at hq;done)
   case len =>
    simp only [Bz] at hq ⊢
    split at hq
    ·rename_i x t hxx htt
     have:σ'.ev x=σ.ev x:=he x (by rw [hxx];simp);rw [this]
     split at hq
     ·exact hq
     rename_i hel
     rw [hm]
     split at hq
     ·rename_i q hq0
      rw [JT ho hq0];exact hq
     rename_i hq0
     split
     ·rename_i q hq1
      exfalso
      obtain ⟨z,h1,_⟩:=Cr hq;simp only [Option.bind_eq_some_iff] at h1;obtain ⟨l,h2,_⟩:=h1;rw [hxx] at h2;simp only [List.map_cons,List.map_nil,toVals] at h2
      cases hv:σ.ev x <;> simp [hv,EN,toVal] at hq0 hq1 h2
     exact hq
    cases hq
   case cap =>
    simp only [Bz] at hq ⊢
    split at hq
    ·rename_i x t hxx htt
     have:σ'.ev x=σ.ev x:=he x (by rw [hxx];simp);rw [this];exact hq
    cases hq
   case unsafeSliceData =>
    simp only [Bz] at hq ⊢
    split at hq
    ·rename_i x hxx
     have:σ'.ev x=σ.ev x:=he x (by rw [hxx];simp);rw [this];exact hq
    cases hq
   case max=>simp only [Bz,hm] at hq ⊢;exact hq
   case min=>simp only [Bz,hm] at hq ⊢;exact hq
  all_goals (simp [At] at hq)
 case load t x =>
  simp only [readsM,readsOf,Option.some.injEq] at hx;subst hx;have e1:=he x (by simp);simp only [At,e1] at hq ⊢;obtain ⟨h1,rfl⟩:=BY hq;rw [PT ho h1];rfl
 case indexAddr t x i =>
  simp only [readsM,readsOf,Option.some.injEq] at hx;subst hx;have e1:=he x (by simp);have e2:=he i (by simp);simp only [At,e1,e2] at hq ⊢
  split at hq
  ·split at hq
   ·obtain ⟨hb,hq⟩:=E8 hq;rw [hb];obtain ⟨h1,rfl⟩:=BY hq;rw [O6 ho h1];rfl
   exact hq
  cases hq
 case build t parts =>
  simp only [readsM,readsOf,Option.some.injEq] at hx;subst hx
  have hm:(parts.toList.map fun p=>(p.1,σ'.ev p.2))=(parts.toList.map fun p=>(p.1,σ.ev p.2)):=List.map_congr_left fun p hp=>by rw [he p.2 (List.mem_map.2 ⟨p,hp,rfl⟩)]
  simp only [At,hm] at hq ⊢;exact hq
 case buildSlice t len parts =>
  simp only [readsM,Option.some.injEq] at hx;subst hx
  have hm:(parts.toList.map fun p=>(p.1,σ'.ev p.2))=(parts.toList.map fun p=>(p.1,σ.ev p.2)):=List.map_congr_left fun p hp=>by rw [he p.2 (List.mem_map.2 ⟨p,hp,rfl⟩)]
  simp only [At,hm] at hq ⊢;exact hq
 case makeFunc f first caps =>
  simp only [readsM,readsOf,Option.some.injEq] at hx;subst hx;have h1:first.toList.map σ'.ev=first.toList.map σ.ev:=List.map_congr_left fun y hy=>he y (by simp [hy]);have h2:caps.toList.map σ'.ev=caps.toList.map σ.ev:=List.map_congr_left fun y hy=>he y (by simp [hy]);simp only [At,h1,h2] at hq ⊢;exact hq
 case alloc t=>simpa only [At] using hq
 case makeSlice t x y =>
  simp only [readsM,Option.some.injEq] at hx;subst hx;have e1:=he x (by simp);have e2:=he y (by simp);simp only [At,e1,e2] at hq ⊢;exact hq
 case entry x =>
  simp only [readsM,Option.some.injEq] at hx;subst hx;have e1:=he x (by simp);simp only [At,e1,Option.bind_eq_some_iff] at hq ⊢;obtain ⟨p,h1,h⟩:=hq;exact ⟨p,PO ho h1,h⟩
 case lookup t x i ok =>
  simp only [readsM,Option.some.injEq] at hx;subst hx;have e1:=he x (by simp);have e2:=he i (by simp);simp only [At,e1,e2,Option.bind_eq_some_iff] at hq ⊢;obtain ⟨p,h1,q,h2,h⟩:=hq;exact ⟨p,h1,q,JT ho h2,h⟩
 all_goals
  simp only [readsM,readsOf,Option.some.injEq] at hx;subst hx;simp only [List.mem_cons,List.not_mem_nil,or_false,forall_eq_or_imp,forall_eq] at he;simp only [At,he] at hq ⊢;exact hq
end mono
def E5 (l:List Oper) (T:List (List Bool)) (K:Nat):Bool :=
 (List.range K).all fun i=>match l[i]? with
   |none=>true
   |some o=>(match readsM o.op with
    |none=>false
    |some xs=>xs.all (LJ (dstsL (l.take i)) ((T[i]?).getD []))) &&
    (match o.guard with
    |none=>true
    |some (j,_)=>match (AU ⟨l⟩)[j]? with
     |some (some d)=>okT (dstsL (l.take i)) ((T[i]?).getD []) d
     |_=>true)
def WF (P:Program) (σ:St) (o:Oper) (v:AV):Prop:=∀ σ' xs,readsM o.op=some xs→Jz σ.objs σ'.objs→(∀ x ∈ xs,σ'.ev x=σ.ev x)→Local P σ' o v []
def WG (P:Program) (σ:St) (o:Oper) (v:AV) (new:List (Nat × Obj)):Prop:=∀ σ' xs,readsM o.op=some xs→Jz σ.objs σ'.objs→(∀ x ∈ xs,σ'.ev x=σ.ev x)→Local P σ' o v new
inductive DM (P:Program) (l:List Oper) (T:List (List Bool)) (nx:Nat) (F:List Oper→Nat→St→List (Nat × Obj)→Prop):List Oper→Nat→Nat→St→List (Nat × Obj)→Prop
 |stop {rest:List Oper} {i:Nat} {σ:St} {N:List (Nat × Obj)} (h:F rest i σ N):DM P l T nx F rest 0 i σ N
 |op {o:Oper} {rest:List Oper} {n i d:Nat} {σ:St} {N new:List (Nat × Obj)} {v:AV} (hd:o.dst=some d) (hg:AL (AU ⟨l⟩) σ o.guard=some true) (hq:At P σ (σ.next+4 * i) o.op=some (v,new))
   (h:DM P l T nx F rest n (i+1) (σ.put (some d) v) (N ++ new)):DM P l T nx F (o :: rest) (n+1) i σ N
 |opN {o:Oper} {rest:List Oper} {n i d:Nat} {σ:St} {N new:List (Nat × Obj)} {v:AV} (hd:o.dst=some d) (hg:AL (AU ⟨l⟩) σ o.guard=some true) (hb:(N.all fun p=>DO T i ((p.1 - σ.next) / 4))=true)
   (hq:At P { σ with objs:=N ++ σ.objs } (σ.next+4 * i) o.op=some (v,new)) (h:DM P l T nx F rest n (i+1) (σ.put (some d) v) (N ++ new)):DM P l T nx F (o :: rest) (n+1) i σ N
 |call {o:Oper} {rest:List Oper} {n i d:Nat} {σ:St} {N:List (Nat × Obj)} {v:AV} {x:Operand} {as:Array Operand} {ts:Array TypeId} (hd:o.dst=some d) (hg:AL (AU ⟨l⟩) σ o.guard=some true)
   (ho:o.op= .call { callee:= .value x,args:=as,argTypes:=ts }) (hq:WF P σ o v) (h:DM P l T nx F rest n (i+1) (σ.put (some d) v) N):DM P l T nx F (o :: rest) (n+1) i σ N
 |callN {o:Oper} {rest:List Oper} {n i d:Nat} {σ:St} {N new:List (Nat × Obj)} {v:AV} {x:Operand} {as:Array Operand} {ts:Array TypeId} (hd:o.dst=some d) (hg:AL (AU ⟨l⟩) σ o.guard=some true)
   (ho:o.op= .call { callee:= .value x,args:=as,argTypes:=ts }) (hid:DS (σ.next+4 * i) new) (hq:WG P σ o v new) (h:DM P l T nx F rest n (i+1) (σ.put (some d) v) (N ++ new)):DM P l T nx F (o :: rest) (n+1) i σ N
 |skip {o:Oper} {rest:List Oper} {n i d:Nat} {σ:St} {N:List (Nat × Obj)} (hd:o.dst=some d) (hg:AL (AU ⟨l⟩) σ o.guard=some false) (h:DM P l T nx F rest n (i+1) (σ.put (some d) (.lit undef)) N):DM P l T nx F (o :: rest) (n+1) i σ N
def Mw (P:Program) (l:List Oper) (nx:Nat) (Q:St→Prop) (rest:List Oper) (i:Nat) (σ:St) (N:List (Nat × Obj)):Prop:=SeqL P ⟨l⟩ rest { σ with next:=nx,objs:=N ++ σ.objs } Q
def FE (n:Nat):List (Nat × Obj)→Bool
 |[]=>true
 |p :: l=>Nat.blt p.1 n && FE n l
theorem KE {n:Nat}:∀ {l:List (Nat × Obj)},FE n l=true→∀ r o,Al l r=some o→r < n
 |[],_,r,o,h=>by simp [Al] at h
 |(k,u) :: l,h,r,o,hf=>by
  simp only [FE,Bool.and_eq_true] at h;rw [A8] at hf
  split at hf
  ·rename_i e
   subst e;exact Nat.le_of_ble_eq_true h.1
  ·exact KE h.2 r o hf
theorem find_flat:∀ (R:List Res) (k:Nat) (o:Obj),Al (R.flatMap (·.new)) k=some o→∃ (j:Nat) (r:Res),R[j]?= some r∧Al r.new k=some o
 |[],k,o,h=>by simp [Al] at h
 |r :: R,k,o,h=>by
  rw [List.flatMap_cons,AZ] at h
  cases hf:Al r.new k with
  |some o' =>
   rw [hf] at h;simp only [Option.some_or,Option.some.injEq] at h;exact ⟨0,r,rfl,by rw [hf,h]⟩
  |none =>
   rw [hf] at h;obtain ⟨j,r',h1,h2⟩:=find_flat R k o (by simpa using h);exact ⟨j+1,r',by simpa using h1,h2⟩
theorem O3 {T:Type}:∀ {l:List (Nat × T)} {k:Nat} {o:T},Al l k=some o→∃ p ∈ l,p.1=k
 |[],k,o,h=>by simp [Al] at h
 |p :: l,k,o,h=>by
  rw [A8] at h
  split at h
  ·exact ⟨p,by simp,by assumption⟩
  ·obtain ⟨q,hq,e⟩:=O3 h;exact ⟨q,by simp [hq],e⟩
theorem TG {P:Program} {l:List Oper} {σ:St} {nx:Nat} {F:List Oper→Nat→St→List (Nat × Obj)→Prop} {Fin:List Oper→List Res→Prop} {T:List (List Bool)} {K:Nat} (hch:E5 l T K=true) (hnd:(dstsL (l.take K)).Nodup) (hKT:K≤T.length) (hKl:K≤l.length) (hkb:FE σ.next σ.objs=true)
 (hfin:∀ (rest:List Oper) (σc:St) (N:List (Nat × Obj)) (R:List Res),R.length=K→l.drop K=rest→σc.slots=(R.map fun r=>(r.dst,r.v)).reverse ++ σ.slots→σc.objs=σ.objs→σc.nt=σ.nt→σc.env=σ.env→σc.next=σ.next→N=R.flatMap (·.new)→R.map (·.dst)=dstsL (l.take R.length)→(∀ j r,R[j]?= some r→DS (σ.next+4 * j) r.new)→F rest K σc N→Fin rest R) :
 ∀ {rest:List Oper} {n i:Nat} {σc:St} {N:List (Nat × Obj)},DM P l T nx F rest n i σc N→∀ (R:List Res),n+R.length=K→i=R.length→l.drop R.length=rest→σc.slots=(R.map fun r=>(r.dst,r.v)).reverse ++ σ.slots→σc.objs=σ.objs→σc.nt=σ.nt→σc.env=σ.env→σc.next=σ.next →
  N=R.flatMap (·.new)→R.map (·.dst)=dstsL (l.take R.length)→(∀ j r,R[j]?= some r→DS (σ.next+4 * j) r.new)→DP P l (AU ⟨l⟩) σ nx Fin rest ((T.take K).drop R.length) R:=by
 intro rest n i σc N hdm
 have common:∀ (o:Oper) (rest:List Oper) (n:Nat) (R:List Res) (σc:St),n+1+R.length=K→l.drop R.length=o :: rest→σc.slots=(R.map fun r=>(r.dst,r.v)).reverse ++ σ.slots→σc.objs=σ.objs→R.map (·.dst)=dstsL (l.take R.length)→(∀ j r,R[j]?= some r→DS (σ.next+4 * j) r.new) →
  ∃ bs,bs=(T[R.length]?).getD []∧(T.take K).drop R.length=bs :: (T.take K).drop (R.length+1)∧l.drop (R.length+1)=rest∧(∃ xs,readsM o.op=some xs∧∀ x ∈ xs,(C4 σ nx bs R).ev x=σc.ev x)∧Jz σc.objs (C4 σ nx bs R).objs∧AL (AU ⟨l⟩) (C4 σ nx bs R) o.guard=AL (AU ⟨l⟩) σc o.guard ∧
   ∀ d v new,o.dst=some d→(R ++ [(⟨d,v,new⟩:Res)]).map (·.dst)=dstsL (l.take (R.length+1)):=by
  intro o rest n R σc hn hl hs ho hds hids
  have hlt:R.length < K:=by omega
  have hlo:l[R.length]?= some o:=by
   have:=congrArg List.head? hl
   simpa [List.head?_drop] using this
  have hlr:l.drop (R.length+1)=rest:=by
   rw [← List.drop_drop,hl];rfl
  have hTd:(T.take K).drop R.length=(T[R.length]?).getD [] :: (T.take K).drop (R.length+1):=by
   have hlt':R.length < (T.take K).length:=by simp;omega
   rw [List.drop_eq_getElem_cons hlt']
   congr 1
   rw [List.getElem_take,List.getElem?_eq_getElem (by omega),Option.getD_some]
  refine ⟨(T[R.length]?).getD [],rfl,hTd,hlr,?_⟩
  generalize hbs:(T[R.length]?).getD []=bs
  have hck:(match readsM o.op with
   |none=>false
   |some xs=>xs.all (LJ (dstsL (l.take R.length)) bs))=true∧(match o.guard with
   |none=>true
   |some (j,_)=>match (AU ⟨l⟩)[j]? with
    |some (some d)=>okT (dstsL (l.take R.length)) bs d
    |_=>true)=true:=by
   unfold E5 at hch
   rw [List.all_eq_true] at hch;have:=hch R.length (by simpa using hlt);rw [hlo] at this;simp only [Bool.and_eq_true,hbs] at this;exact this
  have hRnd:(R.map (·.dst)).Nodup:=by
   rw [hds];have:(dstsL (l.take K)).Nodup:=hnd;rw [show K=R.length+(K - R.length) by omega,List.take_add,dstsL_append] at this;exact (List.nodup_append.1 this).1
  have hev:∀ t,okT (R.map (·.dst)) bs t=true→(C4 σ nx bs R).get t=σc.get t:=by
   intro t hok
   unfold St.get
   simp only [C4,hs]
   by_cases hm:t ∈ R.map (·.dst)
   ·obtain ⟨r,hr,rfl⟩:=List.mem_map.1 hm;obtain ⟨j,hj⟩:=List.mem_iff_getElem?.1 hr;rw [find_rev R σ.slots r.dst j r hRnd hj rfl];have hb:=okT_spec _ bs r.dst hok hRnd j (by rw [List.getElem?_map,hj];rfl);rw [AZ,slotsM_find bs R j r hRnd hb hj];rfl
   ·rw [find_slotsM_none bs R _ t hm,find_rev_none R _ t hm]
  refine ⟨?_,?_,?_,?_⟩
  ·cases hr:readsM o.op with
   |none=>have:=hck.1;rw [hr] at this;simp at this
   |some xs =>
    refine ⟨xs,rfl,fun x hx=>?_⟩;have h1:=hck.1;rw [hr] at h1;simp only [List.all_eq_true] at h1;have h2:=h1 x hx
    cases x with
    |tmp t=>exact hev t (by rw [hds];exact h2)
    |const v=>rfl
    |global g=>rfl
    |func f=>rfl
  ·intro r ob hr;rw [ho] at hr;simp only [C4,AZ];have hlt:=KE hkb r ob hr
   cases hf:Al (objsM bs R) r with
   |none=>simpa using hr
   |some ob' =>
    obtain ⟨j,q,_,h2,h3⟩:=find_objsM bs R r ob' hf;have:=Fz (hids j q h2) r ob' h3;omega
  ·have h2:=hck.2
   cases hgo:o.guard with
   |none=>rfl
   |some p =>
    obtain ⟨j,want⟩:=p;rw [hgo] at h2
    simp only at h2
    unfold AL
    simp only
    split
    ·rename_i d hd
     rw [hd] at h2;rw [hev d (by rw [hds];exact h2)]
    ·rfl
  ·intro d v new hd;rw [List.map_append,hds,List.take_add_one,hlo,dstsL_append]
   simp [dstsL,hd]
 have snocIds:∀ (R:List Res) (r:Res),(∀ j r,R[j]?= some r→DS (σ.next+4 * j) r.new)→DS (σ.next+4 * R.length) r.new→∀ j q,(R ++ [r])[j]?= some q→DS (σ.next+4 * j) q.new:=by
  intro R r h1 h2 j q hj;rw [List.getElem?_append] at hj
  split at hj
  ·exact h1 j q hj
  rename_i hlt
  rw [List.getElem?_singleton] at hj
  split at hj
  ·rename_i e
   simp only [Option.some.injEq] at hj;subst hj;rw [show j=R.length by omega];exact h2
  cases hj
 induction hdm with
 |stop h =>
  rename_i rest i σc N
  intro R hn hi hl hs ho ht he hnx hN hds hids
  have hRK:R.length=K:=by omega
  rw [List.drop_of_length_le (by simp;omega)];simp only [DP];exact hfin rest σc N R hRK (by rw [← hRK];exact hl) hs ho ht he hnx hN hds hids (by rw [← hRK, ← hi];exact h)
 |op hd hg hq h ih =>
  rename_i o rest n i d σc N new v
  intro R hn hi hl hs ho ht he hnx hN hds hids;obtain ⟨bs,hbs,hT,hlr,⟨xs,hxs,hev⟩,hext,hgd,hdst⟩:=common o rest n R σc hn hl hs ho hds hids;rw [hT];simp only [DP,hd,hgd,hg];rw [hi,hnx] at hq;rw [Jv hxs hext hev hq]
  have hlen:(R ++ [(⟨d,v,new⟩:Res)]).length=R.length+1:=by simp
  have hnw:DS (σ.next+4 * R.length) new:=by
   rcases I3 hq with rfl | ⟨ob,rfl⟩
   ·intro p hp;simp at hp
   intro p hp
   simp at hp
   subst hp
   simp
  have:=ih (R ++ [⟨d,v,new⟩]) (by rw [hlen];omega) (by rw [hlen,hi]) (by rw [hlen];exact hlr) (by simp only [St.put,hs,List.map_append,List.map_cons,List.map_nil,List.reverse_append,List.reverse_cons,List.reverse_nil,List.nil_append,List.cons_append]) (by simpa [St.put] using ho) (by simpa [St.put] using ht) (by simpa [St.put] using he) (by simpa [St.put] using hnx)
   (by rw [hN];simp) (by rw [hlen];exact hdst d v new hd) (snocIds R _ hids hnw)
  rw [hlen] at this;exact this
 |opN hd hg hb hq h ih =>
  rename_i o rest n i d σc N new v
  intro R hn hi hl hs ho ht he hnx hN hds hids;obtain ⟨bs,hbs,hT,hlr,⟨xs,hxs,hev⟩,hext,hgd,hdst⟩:=common o rest n R σc hn hl hs ho hds hids;rw [hT];simp only [DP,hd,hgd,hg];rw [hi,hnx] at hq
  have hextN:Jz (N ++ σc.objs) (C4 σ nx bs R).objs:=by
   intro r ob hr;rw [AZ] at hr
   cases hf:Al N r with
   |none=>rw [hf] at hr;exact hext r ob (by simpa using hr)
   |some ob' =>
    rw [hf] at hr;simp only [Option.some_or,Option.some.injEq] at hr;subst hr;have hf':=hf;rw [hN] at hf';obtain ⟨j,q,h2,h3⟩:=find_flat R r ob' hf';have hin:=Fz (hids j q h2) r ob' h3;rw [List.all_eq_true] at hb;obtain ⟨p,hp,hpe⟩:=O3 hf;have h4:=hb p hp;rw [hpe,hi,hnx,show (r - σ.next) / 4=j by omega] at h4
    unfold DO at h4
    rw [← hbs] at h4
    have h5:bs[j]?= some true:=by
     rw [List.getD_eq_getElem?_getD] at h4
     cases h6:bs[j]? with
     |none=>rw [h6] at h4;cases h4
     |some z=>rw [h6] at h4;simp only [Option.getD_some] at h4;rw [h4]
    simp only [C4,AZ];rw [Gq σ.next bs R 0 j q r ob' (fun m q' hq' k o' hk=>by have:=Fz (hids m q' hq') k o' hk;rw [Nat.zero_add];exact this) h5 h2 h3];rfl
  rw [Jv (σ:={ σc with objs:=N ++ σc.objs }) hxs hextN hev hq]
  have hlen:(R ++ [(⟨d,v,new⟩:Res)]).length=R.length+1:=by simp
  have hnw:DS (σ.next+4 * R.length) new:=by
   rcases I3 hq with rfl | ⟨ob,rfl⟩
   ·intro p hp;simp at hp
   intro p hp
   simp at hp
   subst hp
   simp
  have:=ih (R ++ [⟨d,v,new⟩]) (by rw [hlen];omega) (by rw [hlen,hi]) (by rw [hlen];exact hlr) (by simp only [St.put,hs,List.map_append,List.map_cons,List.map_nil,List.reverse_append,List.reverse_cons,List.reverse_nil,List.nil_append,List.cons_append]) (by simpa [St.put] using ho) (by simpa [St.put] using ht) (by simpa [St.put] using he) (by simpa [St.put] using hnx)
   (by rw [hN];simp) (by rw [hlen];exact hdst d v new hd) (snocIds R _ hids hnw)
  rw [hlen] at this;exact this
 |call hd hg hop hq h ih =>
  rename_i o rest n i d σc N v x as ts
  intro R hn hi hl hs ho ht he hnx hN hds hids;obtain ⟨bs,hbs,hT,hlr,⟨xs,hxs,hev⟩,hext,hgd,hdst⟩:=common o rest n R σc hn hl hs ho hds hids;rw [hT];simp only [DP,hd,hgd,hg]
  have hlen:(R ++ [(⟨d,v,[]⟩:Res)]).length=R.length+1:=by simp
  have hz:At P (C4 σ nx bs R) (σ.next+4 * R.length) o.op=none:=by simp [hop,At]
  rw [hz];refine ⟨v,[],fun p hp=>(by simp at hp),hq _ xs hxs hext hev,?_⟩
  have:=ih (R ++ [⟨d,v,[]⟩]) (by rw [hlen];omega) (by rw [hlen,hi]) (by rw [hlen];exact hlr) (by simp only [St.put,hs,List.map_append,List.map_cons,List.map_nil,List.reverse_append,List.reverse_cons,List.reverse_nil,List.nil_append,List.cons_append]) (by simpa [St.put] using ho) (by simpa [St.put] using ht) (by simpa [St.put] using he) (by simpa [St.put] using hnx)
   (by rw [hN];simp) (by rw [hlen];exact hdst d v [] hd) (snocIds R _ hids (fun p hp=>by simp at hp))
  rw [hlen] at this;exact this
 |callN hd hg hop hid hq h ih =>
  rename_i o rest n i d σc N new v x as ts
  intro R hn hi hl hs ho ht he hnx hN hds hids;obtain ⟨bs,hbs,hT,hlr,⟨xs,hxs,hev⟩,hext,hgd,hdst⟩:=common o rest n R σc hn hl hs ho hds hids;rw [hT];simp only [DP,hd,hgd,hg];rw [hi,hnx] at hid
  have hlen:(R ++ [(⟨d,v,new⟩:Res)]).length=R.length+1:=by simp
  have hz:At P (C4 σ nx bs R) (σ.next+4 * R.length) o.op=none:=by simp [hop,At]
  rw [hz];refine ⟨v,new,hid,hq _ xs hxs hext hev,?_⟩
  have:=ih (R ++ [⟨d,v,new⟩]) (by rw [hlen];omega) (by rw [hlen,hi]) (by rw [hlen];exact hlr) (by simp only [St.put,hs,List.map_append,List.map_cons,List.map_nil,List.reverse_append,List.reverse_cons,List.reverse_nil,List.nil_append,List.cons_append]) (by simpa [St.put] using ho) (by simpa [St.put] using ht) (by simpa [St.put] using he) (by simpa [St.put] using hnx)
   (by rw [hN];simp) (by rw [hlen];exact hdst d v new hd) (snocIds R _ hids hid)
  rw [hlen] at this;exact this
 |skip hd hg h ih =>
  rename_i o rest n i d σc N
  intro R hn hi hl hs ho ht he hnx hN hds hids;obtain ⟨bs,hbs,hT,hlr,⟨xs,hxs,hev⟩,hext,hgd,hdst⟩:=common o rest n R σc hn hl hs ho hds hids;rw [hT];simp only [DP,hd,hgd,hg]
  have hlen:(R ++ [(⟨d, .lit undef,[]⟩:Res)]).length=R.length+1:=by simp
  have:=ih (R ++ [⟨d, .lit undef,[]⟩]) (by rw [hlen];omega) (by rw [hlen,hi]) (by rw [hlen];exact hlr) (by simp only [St.put,hs,List.map_append,List.map_cons,List.map_nil,List.reverse_append,List.reverse_cons,List.reverse_nil,List.nil_append,List.cons_append]) (by simpa [St.put] using ho) (by simpa [St.put] using ht) (by simpa [St.put] using he) (by simpa [St.put] using hnx)
   (by rw [hN];simp) (by rw [hlen];exact hdst d _ [] hd) (snocIds R _ hids (fun p hp=>by simp at hp))
  rw [hlen] at this;exact this
theorem VO {P:Program} {l:List Oper} {σ:St} {nx:Nat} {Q:St→Prop} {K:Nat} (hnd:(dstsL (l.take K)).Nodup) :
 ∀ (rest:List Oper) (σc:St) (N:List (Nat × Obj)) (R:List Res),R.length=K→l.drop K=rest→σc.slots=(R.map fun r=>(r.dst,r.v)).reverse ++ σ.slots→σc.objs=σ.objs→σc.nt=σ.nt→σc.env=σ.env→σc.next=σ.next→N=R.flatMap (·.new)→R.map (·.dst)=dstsL (l.take R.length)→(∀ j r,R[j]?= some r→DS (σ.next+4 * j) r.new) →
  Mw P l nx Q rest K σc N→Ud P l σ nx Q rest R:=by
 intro rest σc N R hRK hl hs ho ht he hnx hN hds hids h
 unfold Ud
 unfold Mw at h
 have hRnd:(R.map (·.dst)).Nodup:=by rw [hds,hRK];exact hnd
 refine SeqL.weaken (σ':={ σc with next:=nx,objs:=N ++ σc.objs }) (Wk.sub ?_ ?_ (Nat.le_refl _) ht he) h
 ·intro s v hv;simp only [FP];simp only [hs] at hv
  by_cases hm:s ∈ R.map (·.dst)
  ·obtain ⟨r,hr,rfl⟩:=List.mem_map.1 hm;obtain ⟨j,hj⟩:=List.mem_iff_getElem?.1 hr;rw [find_rev R σ.slots r.dst j r hRnd hj rfl] at hv
   have hnd':(R.reverse.map (·.dst)).Nodup:=by rw [List.map_reverse];exact It hRnd
   have hr':r ∈ R.reverse:=List.mem_reverse.2 hr;obtain ⟨j',hj'⟩:=List.mem_iff_getElem?.1 hr';have:=find_rev R.reverse σ.slots r.dst j' r hnd' hj' rfl;rw [← List.map_reverse,List.reverse_reverse] at this;rw [this];exact hv
  rw [find_rev_none R _ s hm] at hv
  have hm':s ∉ R.reverse.map (·.dst):=by rw [List.map_reverse,List.mem_reverse];exact hm
  have:=find_rev_none R.reverse σ.slots s hm';rw [← List.map_reverse,List.reverse_reverse] at this;rw [this];exact hv
 intro r o hr;simp only [FP];rw [← hN, ← ho];exact hr
theorem CP {P:Program} {s:List (Nat × AV)} {b:List (Nat × Obj)} {n t e:Nat} {Q:Exit→St→Prop} {id:Nat} {l:List Oper} (T:List (List Bool)) (K:Nat)
 (h:∀ Kt:St→Prop,(∀ σ',Q .normal σ'→Kt σ')→DM P l T (n+4 * K) (Mw P l (n+4 * K) Kt) l K 0 ⟨s,b,n,t,e⟩ []) (hm:P.follows .mixedOrders=true:=by exact rfl) (hok:IL l T ⟨s,b,n,t,e⟩ K=true:=by exact rfl) (hch:E5 l T K=true:=by exact rfl) (hTl:Nat.ble K T.length=true:=by exact rfl) (hkb:FE n b=true:=by exact rfl):Ev P (.region id ⟨l⟩ true) ⟨s,b,n,t,e⟩ Q:=by
 have hok':=hok;simp only [IL,Bool.and_eq_true,decide_eq_true_eq,List.all_eq_true] at hok';obtain ⟨⟨_,hKl⟩,⟨_,hnd⟩,_⟩:=hok';refine Vz T K hm hok (CG hTl) fun Kt hKt=>?_;have:=TG (σ:=⟨s,b,n,t,e⟩) hch hnd (CG hTl) (CG hKl) hkb (VO hnd) (h Kt hKt) [] (by simp) rfl rfl (by simp) rfl rfl rfl rfl (by simp) rfl (by simp)
 simpa using this
section rules
variable {P:Program} {rest:List Oper} {s:List (Nat × AV)} {b N:List (Nat × Obj)} {n t e K i:Nat} {Q:St→Prop} {F:List Oper→Nat→St→List (Nat × Obj)→Prop} {d ty:Nat} {pos:String} {aft:Array Edge} {g:Option (Nat × Bool)} {op:Op} {l:List Oper} {nx:Nat} {T:List (List Bool)}
variable {x:Operand} {v:AV}
theorem Ak (hq:At P ⟨s,b,n,t,e⟩ (n+4 * i) op=some (v,[])) (h:DM P l T nx F rest K (i+1) ⟨(d,v) :: s,b,n,t,e⟩ N) (hg:AL (AU ⟨l⟩) ⟨s,b,n,t,e⟩ g=some true:=by exact rfl) :
 DM P l T nx F (⟨some d,op,ty,pos,aft,g⟩ :: rest) (K+1) i ⟨s,b,n,t,e⟩ N:= .op rfl hg hq (by rw [List.append_nil];exact h)
theorem QH (hq:At P ⟨s,N ++ b,n,t,e⟩ (n+4 * i) op=some (v,[])) (h:DM P l T nx F rest K (i+1) ⟨(d,v) :: s,b,n,t,e⟩ N) (hb:(N.all fun p=>DO T i ((p.1 - n) / 4))=true:=by exact rfl) (hg:AL (AU ⟨l⟩) ⟨s,b,n,t,e⟩ g=some true:=by exact rfl) :
 DM P l T nx F (⟨some d,op,ty,pos,aft,g⟩ :: rest) (K+1) i ⟨s,b,n,t,e⟩ N:= .opN rfl hg hb hq (by rw [List.append_nil];exact h)
theorem WE {c:Bool} (hq:At P ⟨s,b,n,t,e⟩ (n+4 * i) op=some (.lit (.bool c),[])) (ht:c=true→DM P l T nx F rest K (i+1) ⟨(d, .lit (.bool true)) :: s,b,n,t,e⟩ N) (hf:c=false→DM P l T nx F rest K (i+1) ⟨(d, .lit (.bool false)) :: s,b,n,t,e⟩ N)
 (hg:AL (AU ⟨l⟩) ⟨s,b,n,t,e⟩ g=some true:=by exact rfl):DM P l T nx F (⟨some d,op,ty,pos,aft,g⟩ :: rest) (K+1) i ⟨s,b,n,t,e⟩ N:=by
 cases c
 ·exact Ak hq (hf rfl) hg
 exact Ak hq (ht rfl) hg
theorem Mq {p:Prop} [Decidable p] (hq:At P ⟨s,b,n,t,e⟩ (n+4 * i) op=some (.lit (.bool (decide p)),[])) (ht:p→DM P l T nx F rest K (i+1) ⟨(d, .lit (.bool true)) :: s,b,n,t,e⟩ N) (hf:¬ p→DM P l T nx F rest K (i+1) ⟨(d, .lit (.bool false)) :: s,b,n,t,e⟩ N)
 (hg:AL (AU ⟨l⟩) ⟨s,b,n,t,e⟩ g=some true:=by exact rfl):DM P l T nx F (⟨some d,op,ty,pos,aft,g⟩ :: rest) (K+1) i ⟨s,b,n,t,e⟩ N :=
 WE hq (fun h=>ht (of_decide_eq_true h)) (fun h=>hf (of_decide_eq_false h)) hg
theorem QG {p:Prop} [Decidable p] (hq:At P ⟨s,b,n,t,e⟩ (n+4 * i) op=some (.lit (.bool (!decide p)),[])) (ht:¬ p→DM P l T nx F rest K (i+1) ⟨(d, .lit (.bool true)) :: s,b,n,t,e⟩ N) (hf:p→DM P l T nx F rest K (i+1) ⟨(d, .lit (.bool false)) :: s,b,n,t,e⟩ N)
 (hg:AL (AU ⟨l⟩) ⟨s,b,n,t,e⟩ g=some true:=by exact rfl):DM P l T nx F (⟨some d,op,ty,pos,aft,g⟩ :: rest) (K+1) i ⟨s,b,n,t,e⟩ N :=
 WE hq (fun h=>ht (by simpa using h)) (fun h=>hf (by simpa using h)) hg
theorem FQ {o:Obj} (N':List (Nat × Obj)) (hq:At P ⟨s,b,n,t,e⟩ (n+4 * i) op=some (v,[(n+4 * i,o)])) (hN:N ++ [(n+4 * i,o)]=N':=by exact rfl) (hg:AL (AU ⟨l⟩) ⟨s,b,n,t,e⟩ g=some true:=by exact rfl) (h:DM P l T nx F rest K (i+1) ⟨(d,v) :: s,b,n,t,e⟩ N') :
 DM P l T nx F (⟨some d,op,ty,pos,aft,g⟩ :: rest) (K+1) i ⟨s,b,n,t,e⟩ N:= .op rfl hg hq (by rw [hN];exact h)
theorem Bm (h:DM P l T nx F rest K (i+1) ⟨(d, .lit undef) :: s,b,n,t,e⟩ N) (hg:AL (AU ⟨l⟩) ⟨s,b,n,t,e⟩ g=some false:=by exact rfl):DM P l T nx F (⟨some d,op,ty,pos,aft,g⟩ :: rest) (K+1) i ⟨s,b,n,t,e⟩ N:= .skip rfl hg h
theorem B3 (b':List (Nat × Obj)) (hb:N ++ b=b':=by exact rfl) (h:SeqL P ⟨l⟩ rest ⟨s,b',nx,t,e⟩ Q):DM P l T nx (Mw P l nx Q) rest 0 i ⟨s,b,n,t,e⟩ N:=by
 subst hb;exact .stop h
theorem Cc {as:Array Operand} {ts:Array TypeId} {f:FuncId} {first caps:List AV} {vs:List AV} {v v':AV} (hc:calleeOf (St.ev ⟨s,b,n,t,e⟩ x)=some (f,first,caps):=by exact rfl) (hv:C7 ⟨s,b,n,t,e⟩ (first ++ (as.toList.map (St.ev ⟨s,b,n,t,e⟩) ++ caps))=some vs:=by exact rfl) (hF:Fun P f vs (AI v []))
 (hm:closedL (first ++ (as.toList.map (St.ev ⟨s,b,n,t,e⟩) ++ caps))=true∨noShAV v=true:=by first | exact .inl rfl | exact .inr rfl) (hl:Fl 0 v=some v':=by exact rfl)
 (hg:AL (AU ⟨l⟩) ⟨s,b,n,t,e⟩ g=some true:=by exact rfl) (h:DM P l T nx F rest K (i+1) ⟨(d,v') :: s,b,n,t,e⟩ N) :
 DM P l T nx F (⟨some d, .call { callee:= .value x,args:=as,argTypes:=ts },ty,pos,aft,g⟩ :: rest) (K+1) i ⟨s,b,n,t,e⟩ N:=by
 refine .call rfl hg rfl ?_ h;intro σ' xs hxs hob he;simp only [readsM,readsOf,Option.some.injEq] at hxs;subst hxs;have e1:σ'.ev x=St.ev ⟨s,b,n,t,e⟩ x:=he x (by simp);have e2:as.toList.map σ'.ev=as.toList.map (St.ev ⟨s,b,n,t,e⟩):=List.map_congr_left fun y hy=>he y (by simp [hy]);refine Local.call (N:=0) (new:=[]) rfl (by rw [e1];exact hc) (by rw [e2];exact F6 hob hv) hF ?_ hl rfl;rw [e2]
 rcases hm with hm | hm
 ·exact .inl hm
 exact .inr ⟨hm,fun r ob h=>by simp [Al] at h⟩
end rules
end Go.AM
