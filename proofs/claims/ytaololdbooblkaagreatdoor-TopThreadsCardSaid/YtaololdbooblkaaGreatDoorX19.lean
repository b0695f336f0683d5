/-
  Part 19 of the proof: the abstract machine, proved sound over the model.
  Conditions: none.
-/
import Derived.Lib.Builder
import Derived.Laws.Externs
import Derived.Laws.IdiomStrings
import Derived.Laws.BytesArg
import Derived.Test.YtaololdbooblkaaGreatDoorX18
set_option linter.unusedVariables false
set_option linter.unusedSimpArgs false
set_option linter.unusedSectionVars false
namespace Go.AM
theorem Rel.kill {C:Ctx} {E:Env} {X:Nat→List Value} {σ:St} {a:Act} (h:Rel C E X σ a) {r:Nat} {o:Obj} {b:Nat} {w':World} (ho:Al σ.objs r=some o)
 (hb:blockOf (E.H r)=some b) (hos:w'.os=E.w.os) (htp:Tp E.w w') (hou:w'.output=E.w.output) (hsz:w'.heap.size=E.w.heap.size) (hbl:∀ k,k≠b→w'.heap[k]?= E.w.heap[k]?) :
 Rel C { E with w:=w' } X { σ with objs:=Ct σ.objs r } a:=by
 have hnb:∀ k,E.S k→k≠b:=fun k hk e=>(h.stay k hk).2 r o ho (e ▸ hb);have hle:E.le { E with w:=w' }:=⟨fun k hk=>⟨hk,hbl k (hnb k hk)⟩,fun r hr=>⟨hr,rfl,rfl⟩⟩
 have hd:∀ r' o',Al (Ct σ.objs r) r'=some o'→Al σ.objs r'=some o'∧r'≠r:=by
  intro r' o' hf;rw [Cj] at hf
  split at hf
  ·cases hf
  rename_i e;exact ⟨hf,fun e'=>e e'.symm⟩
 refine ⟨fun s v hv=>FV.le _ hle _ (h.slots s v hv),h.size,h.defers,?_,?_,?_,h.fresh,?_,?_,h.env,h.envD,h.base,h.grow,h.envk,h.glob.le hle⟩
 ·intro r' o' hf;obtain ⟨hf,hne⟩:=hd r' o' hf;obtain ⟨g1,g2,g3,g4⟩:=h.objs r' o' hf;refine ⟨g1,g2,g3.kept (fun k hk=>hbl k ?_),FVr.le _ _ (hle.by _) _ g4⟩;rintro rfl;exact hne (h.apart r' r o' o k hf ho hk hb)
 ·intro r1 r2 o1 o2 k h1 h2 hk1 hk2;exact h.apart r1 r2 o1 o2 k (hd r1 o1 h1).1 (hd r2 o2 h2).1 hk1 hk2
 ·intro k hk;refine ⟨by rw [hsz];exact (h.stay k hk).1,fun r' o' hf=>(h.stay k hk).2 r' o' (hd r' o' hf).1⟩
 ·refine ⟨hos.trans h.kept.os,h.kept.tape.trans htp,hou.trans h.kept.output,by rw [hsz];exact h.kept.size,fun k hk hno=>?_⟩
  have hkb:k≠b:=by
   rintro rfl
   rcases h.mine r o k ho hb with h1 | h1
   ·exact hno h1
   omega
  exact (hbl k hkb).trans (h.kept.block k hk hno)
 intro r' o' k hf hk;exact h.mine r' o' k (hd r' o' hf).1 hk
theorem PJ (w:World) (b n:Nat):(w.freeze ⟨b,0,none⟩ n).heap.size=w.heap.size∧(∀ k,k≠b→(w.freeze ⟨b,0,none⟩ n).heap[k]?= w.heap[k]?)∧(w.freeze ⟨b,0,none⟩ n).os=w.os∧(w.freeze ⟨b,0,none⟩ n).tape=w.tape∧(w.freeze ⟨b,0,none⟩ n).drawn=w.drawn∧(w.freeze ⟨b,0,none⟩ n).output=w.output:=by
 unfold World.freeze
 split
 ·exact ⟨rfl,fun _ _=>rfl,rfl,rfl,rfl,rfl⟩
 refine ⟨by simp,fun k hk=>?_,rfl,rfl,rfl,rfl⟩;simp only [Array.getElem?_modify];rw [if_neg (fun e=>hk e.symm)]
section rules
variable {P:Program} {ops:Array Oper} {rest:List Oper} {s:List (Nat × AV)} {b:List (Nat × Obj)} {n t e id:Nat} {Q:St→Prop} {d ty:Nat} {pos:String} {aft:Array Edge} {g:Option (Nat × Bool)} {x y:Operand}
theorem Yr {r m:Nat} {ts:Array TypeId} (hm:0 < m) (hx:AJ s x=some (.als r 0 m):=by exact rfl):At P ⟨s,b,n,t,e⟩ id (.call { callee:= .builtin .unsafeSliceData,args:= #[x],argTypes:=ts })=some (.adr r 0 0,[]):=by
 have hb:Nat.blt 0 m=true:=by rw [show Nat.blt 0 m=Nat.ble 1 m from rfl,Nat.ble_eq];exact hm
 simp only [At,Bz,AB hx,sdataAV,Nat.beq_refl,hb,Bool.and_self,cond_true]
theorem Yb {r el pt it m:Nat} {l:List UInt8} (b':List (Nat × Obj)) (hp:P.underlying pt=some (.pointer el)) (hc:P.cellsOf el=1) (hl0:0 < l.length) (hx:AJ s x=some (.adr r 0 0):=by exact rfl) (ho:Al b r=some ⟨true,el,1,l.map Da,true⟩:=by exact rfl) (hy:AJ s y=some (.lit (.int .i64 (m:Int))):=by exact rfl) (hm:l.length=m:=by first | exact rfl | simp)
 (hdel:Ct b r=b':=by exact rfl) (hg:AL (AU ops) ⟨s,b,n,t,e⟩ g=some true:=by exact rfl) (hd:Nat.blt d t=true:=by exact rfl) (h:SeqL P ops rest ⟨(d, .lit (C9 l)) :: s,b',n,t,e⟩ Q) :
 SeqL P ops (⟨some d, .call { callee:= .builtin .unsafeString,args:= #[x,y],argTypes:= #[pt,it] },ty,pos,aft,g⟩ :: rest) ⟨s,b,n,t,e⟩ Q:=by
 subst hdel hm;refine SeqL.of_run hg fun C E X a hr=>?_;have hye:=CU hr hy;have hxv:=hr.ev x;rw [AB hx] at hxv;simp only [FV] at hxv;obtain ⟨hD,a0,hbase,hsp,hxe⟩:=hxv;obtain ⟨_,hZ,hok,hrow⟩:=hr.objs r _ ho;obtain ⟨bb,cur,rfl,hgg,htk,hsz⟩:=hok.block hbase
 have hcells:∀ (l:List UInt8) (E':Env) (xs:List Value),FVr E' 1 (l.map Da) xs→xs=l.map fun x=> .int .u8 (x.toNat:Int):=by
  intro l
  induction l with
  |nil=>intro E' xs h;simpa [FVr] using h
  |cons q l ih =>
   intro E' xs h;simp only [List.map_cons,FVr,Da,FVc] at h;obtain ⟨ys,zs,rfl,_,⟨y,ys',rfl,_,h1,rfl⟩,h2⟩:=h;simp only [FV] at h1;rw [h1,ih _ _ h2];rfl
 have hX:=hcells l _ _ hrow
 have hxe':a.eval x= .pointer (some ⟨bb,0,none⟩):=by
  rw [hxe]
  simp [Addr.add_zero']
 have hlen:(X r).length=l.length:=by rw [hX];simp
 have hcell:∀ j z,l[j]?= some z→E.w.cell? ((⟨bb,0,none⟩:Addr).add j)=some (.int .u8 (z.toNat:Int)):=by
  intro j z hj;obtain ⟨_,hh⟩:=hok.holds hbase;refine hh j _ ?_;rw [hX,List.getElem?_map,hj];rfl
 have hrun:=Go.Lib.run_unsafeString_row (P:=P) E.w pt it ty el hp hc bb cur.size (by simp [World.shape?,hgg]) l (List.ne_nil_of_length_pos hl0) (by rw [← hlen];exact hsz) (by
  have h1:=hok
  unfold ObjOK at h1
  rcases h1 with ⟨h1,_⟩ | ⟨b2,cap,cur2,h1,h2,h3,h4,_⟩ | ⟨b2,es,clk,h1,_⟩
  ·rw [h1] at hbase;simp [baseOf] at hbase
  ·simp only [List.length_map] at h3
   unfold maxLen at h4
   omega
  rw [h1] at hbase;simp [baseOf] at hbase) hcell
 obtain ⟨f1,f2,f3,f4,f5,f6⟩:=PJ E.w bb l.length;have hk:=hr.kill (w':=E.w.freeze ⟨bb,0,none⟩ l.length) ho (DA hbase) f3 ⟨f4,by rw [f5];exact Nat.le_refl _⟩ f6 f1 f2;have hput:=hk.put (some d) (v:= .lit (C9 l)) (y:=C9 l) (fun d' e'=>by cases e';exact Nat.le_of_ble_eq_true hd) (by simp [FV]);refine ⟨C9 l,_,_,_,?_,hput,h⟩
 unfold execOp
 simp only [resolve,invoke,builtin,Sem.run_bind,Sem.run_pure,Result.andThen_ok,List.map_toArray,List.map_cons,List.map_nil,hxe',hye,hrun]
theorem XW {tp te yt:Nat} (hp:P.underlying tp=some (.pointer te)) (hx:AJ s x=some (.lit (.pointer none)):=by exact rfl) (hy:AJ s y=some (.lit (.pointer none)):=by exact rfl) (hg:AL (AU ops) ⟨s,b,n,t,e⟩ g=some true:=by exact rfl) (hd:Nat.blt d t=true:=by exact rfl) (h:SeqL P ops rest ⟨(d, .lit (.bool true)) :: s,b,n,t,e⟩ Q) :
 SeqL P ops (⟨some d, .binOp .eql tp x y yt,ty,pos,aft,g⟩ :: rest) ⟨s,b,n,t,e⟩ Q:=by
 refine SeqL.of_run hg fun C E X a hr=>?_;have hxe:=CU hr hx;have hye:=CU hr hy;have hput:=hr.put (some d) (v:= .lit (.bool true)) (y:= .bool true) (fun d' e'=>by cases e';exact Nat.le_of_ble_eq_true hd) (by simp [FV]);refine ⟨.bool true,E,X,_,?_,hput,h⟩
 have hq:∀ k:Nat,(Op.equalIn (k+1) tp (.pointer none) (.pointer none)).run P E.w= .ok true E.w:=fun k=>by simp [Op.equalIn,run_underlying hp]
 unfold execOp
 simp [hxe,hye,eqGuard,binOp,Op.equal,Op.maxDepth,hq 9999]
theorem Of {tp te yt r i j:Nat} (hp:P.underlying tp=some (.pointer te)) (hx:AJ s x=some (.adr r i j):=by exact rfl) (hy:AJ s y=some (.lit (.pointer none)):=by exact rfl) (hg:AL (AU ops) ⟨s,b,n,t,e⟩ g=some true:=by exact rfl) (hd:Nat.blt d t=true:=by exact rfl) (h:SeqL P ops rest ⟨(d, .lit (.bool false)) :: s,b,n,t,e⟩ Q) :
 SeqL P ops (⟨some d, .binOp .eql tp x y yt,ty,pos,aft,g⟩ :: rest) ⟨s,b,n,t,e⟩ Q:=by
 refine SeqL.of_run hg fun C E X a hr=>?_;have hxv:=hr.ev x;rw [AB hx] at hxv;simp only [FV] at hxv;obtain ⟨_,a0,_,_,hxe⟩:=hxv;have hye:=CU hr hy;have hput:=hr.put (some d) (v:= .lit (.bool false)) (y:= .bool false) (fun d' e'=>by cases e';exact Nat.le_of_ble_eq_true hd) (by simp [FV]);refine ⟨.bool false,E,X,_,?_,hput,h⟩
 have hq:∀ (q:Addr) (k:Nat),(Op.equalIn (k+1) tp (.pointer (some q)) (.pointer none)).run P E.w= .ok false E.w:=fun q k=>by simp [Op.equalIn,run_underlying hp]
 unfold execOp
 simp [hxe,hye,eqGuard,binOp,Op.equal,Op.maxDepth,hq _ 9999]
theorem XX {tp te yt r i j:Nat} (hp:P.underlying tp=some (.pointer te)) (hi:(P.info? te).isSome=true) (hx:AJ s x=some (.adr r i j):=by exact rfl) (hy:AJ s y=some (.adr r i j):=by exact rfl) (hg:AL (AU ops) ⟨s,b,n,t,e⟩ g=some true:=by exact rfl) (hd:Nat.blt d t=true:=by exact rfl) (h:SeqL P ops rest ⟨(d, .lit (.bool false)) :: s,b,n,t,e⟩ Q) :
 SeqL P ops (⟨some d, .binOp .neq tp x y yt,ty,pos,aft,g⟩ :: rest) ⟨s,b,n,t,e⟩ Q:=by
 refine SeqL.of_run hg fun C E X a hr=>?_;have hxv:=hr.ev x;rw [AB hx] at hxv;have hyv:=hr.ev y;rw [AB hy] at hyv;simp only [FV] at hxv hyv;obtain ⟨_,a0,h0,_,hxe⟩:=hxv;obtain ⟨_,a1,h1,_,hye⟩:=hyv;rw [h0] at h1;simp only [Option.some.injEq] at h1;subst h1;obtain ⟨jj,hj⟩:=Option.isSome_iff_exists.1 hi;have hput:=hr.put (some d) (v:= .lit (.bool false)) (y:= .bool false) (fun d' e'=>by cases e';exact Nat.le_of_ble_eq_true hd) (by simp [FV]);refine ⟨.bool false,E,X,_,?_,hput,h⟩
 unfold execOp
 simp [hxe,hye,eqGuard,Go.Lib.run_neq_ptr_same E.w _ hp hj]
theorem XV {src dst te r:Nat} {o:Obj} (hs:P.underlying src=some (.pointer te)) (hd':P.underlying dst=some .unsafePointer) (hte:((P.info? te).map fun i=>Nat.beq i.size 0)=some false) (hx:AJ s x=some (.adr r 0 0):=by exact rfl) (ho:Al b r=some o:=by exact rfl) (hr0:Nat.blt 0 (o.rows.length * o.sz)=true:=by exact rfl) (hg:AL (AU ops) ⟨s,b,n,t,e⟩ g=some true:=by exact rfl) (hd:Nat.blt d t=true:=by exact rfl) (h:SeqL P ops rest ⟨(d, .adr r 0 0) :: s,b,n,t,e⟩ Q) :
 SeqL P ops (⟨some d, .convert src dst x,ty,pos,aft,g⟩ :: rest) ⟨s,b,n,t,e⟩ Q:=by
 refine SeqL.of_run hg fun C E X a hr=>?_;have hxv:=hr.ev x;rw [AB hx] at hxv;have hxv0:=hxv;simp only [FV] at hxv;obtain ⟨_,a0,hb0,_,hxe⟩:=hxv;obtain ⟨_,_,hok,hrow⟩:=hr.objs r o ho;obtain ⟨bb,cur,rfl,hgg,_,hsz⟩:=hok.block hb0;obtain ⟨ii,hi,hz⟩:=Option.map_eq_some_iff.1 hte;have hlen:=hrow.length
 have h0:0 < cur.size:=by
  have:0 < o.rows.length * o.sz:=Nat.le_of_ble_eq_true hr0;omega
 have hxe':a.eval x= .pointer (some ⟨bb,0,none⟩):=by rw [hxe];simp [Addr.add_zero']
 have hput:=hr.put (some d) (v:= .adr r 0 0) (y:=a.eval x) (fun d' e'=>by cases e';exact Nat.le_of_ble_eq_true hd) hxv0;refine ⟨a.eval x,E,X,_,?_,hput,h⟩
 have hz':ii.size≠0:=by intro e;rw [e] at hz;simp at hz
 have hcv:=Go.Lib.run_to_unsafe E.w ⟨bb,0,none⟩ hs hd' hi hz' (e:=o.elem) (cells:=cur.size) (by simp [World.shape?,hgg]) h0;rw [← hxe'] at hcv
 unfold execOp
 simp [hcv]
theorem Ya {src dst te r el c:Nat} {row:List AV} {cl:Bool} (hs:P.underlying src=some .unsafePointer) (hd':P.underlying dst=some (.pointer te)) (hte:(P.info? te).isSome=true) (hl:liesAt P P.depth el (c / P.cellsOf el) 0 te 1=true) (hx:AJ s x=some (.adr r 0 0):=by exact rfl) (ho:Al b r=some ⟨false,el,c,[row],cl⟩:=by exact rfl) (hg:AL (AU ops) ⟨s,b,n,t,e⟩ g=some true:=by exact rfl) (hd:Nat.blt d t=true:=by exact rfl) (h:SeqL P ops rest ⟨(d, .adr r 0 0) :: s,b,n,t,e⟩ Q) :
 SeqL P ops (⟨some d, .convert src dst x,ty,pos,aft,g⟩ :: rest) ⟨s,b,n,t,e⟩ Q:=by
 refine SeqL.of_run hg fun C E X a hr=>?_;have hxv:=hr.ev x;rw [AB hx] at hxv;have hxv0:=hxv;simp only [FV] at hxv;obtain ⟨_,a0,hb0,_,hxe⟩:=hxv;obtain ⟨_,_,hok,hrow⟩:=hr.objs r _ ho;have hlen:=hrow.length;simp only [List.length_singleton,Nat.one_mul] at hlen
 unfold ObjOK at hok
 simp only at hok
 rcases hok with ⟨bb,hH,_,hgg⟩ | ⟨bb,mm,hH,_⟩
 ·rw [hH] at hb0;simp only [baseOf,Option.some.injEq] at hb0;subst hb0;obtain ⟨ii,hi⟩:=Option.isSome_iff_exists.1 hte
  have hxe':a.eval x= .pointer (some ⟨bb,0,none⟩):=by rw [hxe];simp [Addr.add_zero']
  have hput:=hr.put (some d) (v:= .adr r 0 0) (y:=a.eval x) (fun d' e'=>by cases e';exact Nat.le_of_ble_eq_true hd) hxv0;refine ⟨a.eval x,E,X,_,?_,hput,h⟩;have hcv:=Go.Lib.run_from_unsafe E.w ⟨bb,0,none⟩ hs hd' hi (e:=el) (cells:=c) (by simp [World.shape?,hgg,hlen]) hl;rw [← hxe'] at hcv
  unfold execOp
  simp [hcv]
 rw [hH] at hb0;simp [baseOf] at hb0
theorem WJ {f:FuncId} {fn:Func} {ts:Array TypeId} {v:AV} (hf:P.funcs[f]?= some fn) (hname:(fn.name == "runtime.NumGoroutine")=false) (hb:fn.body.isNone=true) (hnx:Extern.findNext fn=none) (he:Extern.find fn=some Extern.AbiNoEscape.same) (hx:AJ s x=some v:=by exact rfl) (hg:AL (AU ops) ⟨s,b,n,t,e⟩ g=some true:=by exact rfl) (hd:Nat.blt d t=true:=by exact rfl) (h:SeqL P ops rest ⟨(d,v) :: s,b,n,t,e⟩ Q) :
 SeqL P ops (⟨some d, .call { callee:= .value (.func f),args:= #[x],argTypes:=ts },ty,pos,aft,g⟩ :: rest) ⟨s,b,n,t,e⟩ Q:=by
 refine SeqL.of_run hg fun C E X a hr=>?_;have hxv:=hr.ev x;rw [AB hx] at hxv;have hput:=hr.put (some d) (fun d' e'=>by cases e';exact Nat.le_of_ble_eq_true hd) hxv;have hcf:=run_callFunc_extern hf hname hb hnx he #[a.eval x] E.w;simp only [Go.Lib.run_noEscape,Result.andThen_ok] at hcf;have hfe:a.eval (.func f)= .func (.func f) #[] #[]:=rfl
 have hmap:Array.map a.eval #[x]= #[a.eval x]:=by simp
 refine ⟨a.eval x,E,X,_,?_,hput,h⟩
 unfold execOp
 simp only [resolve,Deferred.ofValue,hfe,hmap,Sem.run_bind,Sem.run_pure,Result.andThen_ok,invoke]
 generalize a.eval x=v' at hcf
 simpa using hcf
end rules
def bp (fl:Bool) (r:Nat):AV:=bif fl then .adr r 0 0 else .lit (.pointer none)
theorem Qk {T:Type} (l:List T) (x:T) (r:Nat):bp (!(l ++ [x]).isEmpty) r= .adr r 0 0:=by
 have:(l ++ [x]).isEmpty=false:=by cases l <;> rfl
 rw [this];rfl
end Go.AM
namespace Go.AM
section rules
variable {P:Program} {ops:Array Oper} {rest:List Oper} {s:List (Nat × AV)} {b:List (Nat × Obj)} {n t e id:Nat} {Q:St→Prop} {d ty:Nat} {pos:String} {aft:Array Edge} {g:Option (Nat × Bool)} {x y:Operand}
end rules
end Go.AM
