/-
  Part 5 of the proof: the abstract machine, proved sound over the model.
  Conditions: none.
-/
import Derived.Laws.StructEq
import Derived.Test.YtaololdbooblkaaGreatDoorX4
set_option linter.unusedVariables false
set_option linter.unusedSimpArgs false
set_option linter.unusedSectionVars false
namespace Go.AM
def MF (P:Program) (t:TypeId):Value→Value→Option Bool
 |.int k a, .int k' b=>match P.underlying t with
  |some (.int _)=>if k=k' then some (decide (a=b)) else none
  |_=>none
 |.bool a, .bool b=>match P.underlying t with
  |some .bool=>some (a == b)
  |_=>none
 |.string a, .string b=>match P.underlying t with
  |some .string=>some (decide (a=b))
  |_=>none
 |_,_=>none
def O1 (P:Program) (xs ys:Array Value):List Field→Option Bool
 |[]=>some true
 |f :: fs=>if f.name= "_"∨Bi P f.type≠some false then none else
  match xs[f.offset]?,ys[f.offset]? with
  |some a,some b=>match MF P f.type a b,O1 P xs ys fs with
   |some r,some s=>some (r && s)
   |_,_=>none
  |_,_=>none
theorem WP (a b:ByteArray):(a == b)=decide (a=b):=by
 rw [Bool.eq_iff_iff,decide_eq_true_eq];obtain ⟨x⟩:=a;obtain ⟨y⟩:=b
 show (x == y)=true↔_
 rw [beq_iff_eq,ByteArray.mk.injEq]
theorem Nq {P:Program} {d:Nat} {t:TypeId} {a b:Value} {r:Bool} (h:MF P t a b=some r):Br P (Op.equalIn (d+1) t a b)=some r:=by
 unfold MF at h
 split at h
 ·split at h
  ·rename_i k1 hu
   split at h
   ·rename_i hk
    subst hk;simp only [Option.some.injEq] at h;subst h;simp only [Op.equalIn,Bb,BJ hu,Option.bind_some,if_true,Bj];rfl
   cases h
  cases h
 ·split at h
  ·rename_i hu
   simp only [Option.some.injEq] at h;subst h;simp only [Op.equalIn,Bb,BJ hu,Option.bind_some,Bj]
  cases h
 ·split at h
  ·rename_i hu
   simp only [Option.some.injEq] at h;subst h;simp only [Op.equalIn,Bb,BJ hu,Option.bind_some,Bj,WP]
  cases h
 cases h
theorem Np {P:Program} {t:TypeId} {cs:Array Value} {off:Nat} {v:Value} (ha:Bi P t=some false) (hv:cs[off]?= some v):Br P (part t cs off)=some v:=by
 have ha':Br P (isAgg t)=some false:=by
  unfold Bi at ha
  simp only [Option.map_eq_some_iff] at ha;obtain ⟨dd,h1,h2⟩:=ha;simp only [isAgg,Bb,BJ h1,Option.bind_some]
  cases dd <;> first | rfl | (simp [isAggD] at h2)
 simp only [part,Bb,ha',Option.bind_some,Bool.false_eq_true,if_false,hv,Bj]
theorem J4 {P:Program} {d:Nat} {xs ys:Array Value}:∀ {fs:List Field} {r:Bool},O1 P xs ys fs=some r→Br P (Op.eqFields (d+1) xs ys fs)=some r
 |[],r,h=>by
  simp only [O1,Option.some.injEq] at h;subst h;rfl
 |f :: fs,r,h=>by
  simp only [O1] at h
  split at h
  ·cases h
  ·rename_i hc
   simp only [not_or,Decidable.not_not] at hc
   split at h
   ·rename_i a b ha hb
    split at h
    ·rename_i r1 s1 h1 h2
     simp only [Option.some.injEq] at h;subst h;have:=J4 (d:=d) h2;simp only [Op.eqFields,ne_eq,hc.1,not_false_eq_true,if_true,Bb,Np hc.2 ha,Np hc.2 hb,Option.bind_some,Nq h1]
     cases r1
     ·simp [Bj]
     ·simpa using this
    ·cases h
   ·cases h
theorem PW {P:Program} (d:Nat) (t:TypeId) (xs ys:Array Value) {fs:Array Field} (ht:P.underlying t=some (.struct fs)) (hp:P.stoodInHeld t=false) :
 Br P (Op.equalIn (d+1) t (.agg xs) (.agg ys))=Br P (Op.eqFields d xs ys fs.toList):=by
 have hpr:Br P program=some P:=rfl;simp only [Op.equalIn,Bb,BJ ht,Option.bind_some,hpr,hp,Bool.false_eq_true,if_false];rw [← Array.forIn_toList]
 generalize fs.toList=fs
 clear ht
 induction fs with
 |nil=>simp [Op.eqFields,Bj]
 |cons f fs ih =>
  simp only [List.forIn_cons,Op.eqFields,Bb]
  split
  ·simp only [Bb]
   generalize Br P (part f.type xs f.offset)=r1
   cases r1 with
   |none=>rfl
   |some a =>
    simp only [Option.bind_some]
    generalize Br P (part f.type ys f.offset)=r2
    cases r2 with
    |none=>rfl
    |some b =>
     simp only [Option.bind_some]
     generalize Br P (Op.equalIn d f.type a b)=r3
     cases r3 with
     |none=>rfl
     |some r =>
      cases r
      ·simp only [Option.bind_some,Bool.not_false,if_true,Bj]
      simp only [Option.bind_some,Bool.not_true,Bool.false_eq_true,if_false,Bj];exact ih
  simp only [Bj,Option.bind_some];exact ih
theorem Kb {P:Program} (op:BinOp) (t:TypeId) (x y:Operand) (xs ys:Array Value) (hm:P.eqGuardType P.depth t=false):Br P (eqGuard op t x y (.agg xs) (.agg ys))=some ():=by
 have hpr:Br P program=some P:=rfl
 cases op <;> simp [eqGuard,Bb,hpr,hm,Bj]
theorem VG {P:Program} {t:TypeId} {x y:Operand} {xs ys:Array Value} {fs:Array Field} {r:Bool} (ht:P.underlying t=some (.struct fs)) (hp:P.stoodInHeld t=false) (hm:P.eqGuardType P.depth t=false) (he:O1 P xs ys fs.toList=some r) :
 De P .eql t x y (.agg xs) (.agg ys)=some (.bool r)∧De P .neq t x y (.agg xs) (.agg ys)=some (.bool (!r)):=by
 have h1:Br P (Op.equalIn (9998+1+1) t (.agg xs) (.agg ys))=some r:=by rw [PW _ _ _ _ ht hp];exact J4 he
 constructor
 ·simp only [De,Bb,Kb _ _ _ _ _ _ hm,Option.bind_some,binOp,Op.equal,Op.maxDepth];have:=h1;simp only [Nat.reduceAdd] at this
  simp [Bb,this,Bj]
 simp only [De,Bb,Kb _ _ _ _ _ _ hm,Option.bind_some,binOp,Op.equal,Op.maxDepth];have:=h1;simp only [Nat.reduceAdd] at this
 simp [Bb,this,Bj]
structure EqT (P:Program) (t:TypeId) (fs:List (Nat × Nat)):Prop where
 u:∃ fa:Array Field,P.underlying t=some (.struct fa)∧(fa.toList.map fun f=>(f.offset,f.type))=fs∧(fa.toList.all fun f=>f.name != "_")=true
 p:P.stoodInHeld t=false
 m:P.eqGuardType P.depth t=false
def Qo (P:Program) (xs ys:List AV):List (Nat × Nat)→Option Bool
 |[]=>some true
 |f :: fs=>if Bi P f.2≠some false then none else
  match xs[f.1]?,ys[f.1]? with
  |some (.lit a),some (.lit b)=>match MF P f.2 a b,Qo P xs ys fs with
   |some r,some s=>some (r && s)
   |_,_=>none
  |_,_=>none
theorem toVals_get:∀ {cs:List AV} {vs:List Value},toVals cs=some vs→∀ (i:Nat) (a:Value),cs[i]?= some (.lit a)→vs[i]?= some a
 |[],vs,h,i,a,hi=>by simp at hi
 |c :: cs,vs,h,i,a,hi=>by
  simp only [toVals] at h
  split at h
  ·rename_i x xs h1 h2
   simp only [Option.some.injEq] at h;subst h
   cases i with
   |zero =>
    simp at hi
    subst hi;simp only [toVal,Option.some.injEq] at h1
    simp [h1]
   |succ i=>simpa using toVals_get h2 i a (by simpa using hi)
  ·cases h
theorem O2 {P:Program} {xs ys:List AV} {vs ws:List Value} (h1:toVals xs=some vs) (h2:toVals ys=some ws):∀ {fs:List Field} {r:Bool},(fs.all fun f=>f.name != "_")=true→Qo P xs ys (fs.map fun f=>(f.offset,f.type))=some r→O1 P vs.toArray ws.toArray fs=some r
 |[],r,_,h=>h
 |f :: fs,r,hn,h=>by
  simp only [List.all_cons,Bool.and_eq_true,bne_iff_ne] at hn;simp only [List.map_cons,Qo] at h
  split at h
  ·cases h
  ·rename_i hc
   split at h
   ·rename_i a b ha hb
    split at h
    ·rename_i r1 s1 g1 g2
     simp only [O1,hn.1,false_or,hc,if_false,List.getElem?_toArray,toVals_get h1 _ _ ha,toVals_get h2 _ _ hb,g1,O2 h1 h2 hn.2 g2];exact h
    ·cases h
   ·cases h
section rules
variable {P:Program} {s:List (Nat × AV)} {b:List (Nat × Obj)} {n t e id:Nat} {d ty:Nat} {x y:Operand} {xs ys:List AV} {vs ws:List Value} {fs:List (Nat × Nat)} {r:Bool}
theorem Th (hT:EqT P ty fs) (hr:Qo P xs ys fs=some r) (hx:AJ s x=some (.agg xs):=by exact rfl) (hy:AJ s y=some (.agg ys):=by exact rfl) (h1:toVals xs=some vs:=by exact rfl) (h2:toVals ys=some ws:=by exact rfl):At P ⟨s,b,n,t,e⟩ id (.binOp .eql ty x y d)=some (.lit (.bool r),[]):=by
 obtain ⟨⟨fa,g1,g2,g3⟩,g4,g5⟩:=hT;subst g2;have:=(VG (x:=x) (y:=y) (xs:=vs.toArray) (ys:=ws.toArray) g1 g4 g5 (O2 h1 h2 g3 hr)).1;simp only [At,AB hx,AB hy,toVal,h1,h2,Option.map_some,this,C0]
end rules
end Go.AM
namespace Go.AM
section rules
variable {P:Program} {ops:Array Oper} {rest:List Oper} {s:List (Nat × AV)} {b:List (Nat × Obj)} {n t e id:Nat} {Q:St→Prop} {d ty:Nat} {pos:String} {aft:Array Edge} {g:Option (Nat × Bool)} {op:Op}
variable {x y z:Operand} {u v w:AV} {k k':IntKind} {i j:Int}
theorem at_ {T:Type} {l:List T} {m ri:Nat} {q:T} (h:l[m]?= some q) (e:ri=m):l[ri]?= some q:=by rw [e];exact h
theorem Ba {T:Type} {l:List T} {m:Nat} {i:Int} {q:T} (h:l[m]?= some q) (e:i=(m:Int)):0≤i∧l[i.toNat]?= some q:=by subst e;exact ⟨Int.natCast_nonneg _,by simpa using h⟩
theorem YM {T:Type} [Inhabited T] {l:List T} {ri:Nat} (h:ri < l.length):l[ri]?= some l[ri]!:=by
 rw [List.getElem?_eq_getElem h,getElem!_pos l ri h]
theorem YY {T:Type} [Inhabited T] {l:List T} {i:Int} (h:0≤i∧i < l.length):0≤i∧l[i.toNat]?= some l[i.toNat]!:=⟨h.1,YM (by omega)⟩
theorem Y (hq:At P ⟨s,b,n,t,e⟩ n op=some (v,[])) (h:SeqL P ops rest ⟨(d,v) :: s,b,n,t,e⟩ Q) (hg:AL (AU ops) ⟨s,b,n,t,e⟩ g=some true:=by exact rfl) (hd:Nat.blt d t=true:=by exact rfl) :
 SeqL P ops (⟨some d,op,ty,pos,aft,g⟩ :: rest) ⟨s,b,n,t,e⟩ Q:=WI hg hd hq h
theorem HA {c:Bool} (hq:At P ⟨s,b,n,t,e⟩ n op=some (.lit (.bool c),[])) (ht:c=true→SeqL P ops rest ⟨(d, .lit (.bool true)) :: s,b,n,t,e⟩ Q) (hf:c=false→SeqL P ops rest ⟨(d, .lit (.bool false)) :: s,b,n,t,e⟩ Q)
 (hg:AL (AU ops) ⟨s,b,n,t,e⟩ g=some true:=by exact rfl) (hd:Nat.blt d t=true:=by exact rfl):SeqL P ops (⟨some d,op,ty,pos,aft,g⟩ :: rest) ⟨s,b,n,t,e⟩ Q:=by
 cases c
 ·exact WI hg hd hq (hf rfl)
 exact WI hg hd hq (ht rfl)
theorem AS {p:Prop} [Decidable p] (hq:At P ⟨s,b,n,t,e⟩ n op=some (.lit (.bool (decide p)),[])) (ht:p→SeqL P ops rest ⟨(d, .lit (.bool true)) :: s,b,n,t,e⟩ Q) (hf:¬ p→SeqL P ops rest ⟨(d, .lit (.bool false)) :: s,b,n,t,e⟩ Q)
 (hg:AL (AU ops) ⟨s,b,n,t,e⟩ g=some true:=by exact rfl) (hd:Nat.blt d t=true:=by exact rfl):SeqL P ops (⟨some d,op,ty,pos,aft,g⟩ :: rest) ⟨s,b,n,t,e⟩ Q :=
 HA hq (fun h=>ht (of_decide_eq_true h)) (fun h=>hf (of_decide_eq_false h)) hg hd
theorem Dc {p:Prop} [Decidable p] (hq:At P ⟨s,b,n,t,e⟩ n op=some (.lit (.bool (!decide p)),[])) (ht:¬ p→SeqL P ops rest ⟨(d, .lit (.bool true)) :: s,b,n,t,e⟩ Q) (hf:p→SeqL P ops rest ⟨(d, .lit (.bool false)) :: s,b,n,t,e⟩ Q)
 (hg:AL (AU ops) ⟨s,b,n,t,e⟩ g=some true:=by exact rfl) (hd:Nat.blt d t=true:=by exact rfl):SeqL P ops (⟨some d,op,ty,pos,aft,g⟩ :: rest) ⟨s,b,n,t,e⟩ Q :=
 HA hq (fun h=>ht (by simpa using h)) (fun h=>hf (by simpa using h)) hg hd
theorem Aq {o:Obj} (hq:At P ⟨s,b,n,t,e⟩ n op=some (v,[(n,o)])) (h:SeqL P ops rest ⟨(d,v) :: s,(n,o) :: b,n+1,t,e⟩ Q) (hg:AL (AU ops) ⟨s,b,n,t,e⟩ g=some true:=by exact rfl) (hd:Nat.blt d t=true:=by exact rfl) :
 SeqL P ops (⟨some d,op,ty,pos,aft,g⟩ :: rest) ⟨s,b,n,t,e⟩ Q:=XU hq hg hd h
theorem Bq (h:SeqL P ops rest ⟨(d, .lit undef) :: s,b,n,t,e⟩ Q) (hg:AL (AU ops) ⟨s,b,n,t,e⟩ g=some false:=by exact rfl) (hd:Nat.blt d t=true:=by exact rfl):SeqL P ops (⟨some d,op,ty,pos,aft,g⟩ :: rest) ⟨s,b,n,t,e⟩ Q:=WK hg hd h
theorem Ar {r rj c st:Nat} {slc:Bool} {el sz:Nat} {cl:Bool} {row cs:List AV} (row':List AV) (cl':Bool) (b':List (Nat × Obj)) (hin:(P.info? st).isSome=true) (hcl:P.cellsOf st=c)
 (hx:AJ s x=some (.adr r 0 rj):=by exact rfl) (hy:AJ s y=some u:=by exact rfl) (ho:Al b r=some ⟨slc,el,sz,[row],cl⟩:=by exact rfl) (hc:cellsAV u=some cs:=by exact rfl)
 (hchk:(Nat.ble (rj+cs.length) row.length && Nat.beq cs.length c)=true:=by exact rfl) (hsp:splice row rj cs=row':=by exact rfl) (hcl':(cl && closedL cs)=cl':=by exact rfl) (hdel:Ct b r=b':=by exact rfl)
 (hg:AL (AU ops) ⟨s,b,n,t,e⟩ g=some true:=by exact rfl) (h:SeqL P ops rest ⟨s,(r,⟨slc,el,sz,[row'],cl'⟩) :: b',n,t,e⟩ Q):SeqL P ops (⟨none, .store st x y,ty,pos,aft,g⟩ :: rest) ⟨s,b,n,t,e⟩ Q :=
 Og hg hin hcl hx hy ho rfl hc hchk hsp rfl hcl' hdel h
theorem DH {T:Type} {f:T→List AV} {l:List T} {qq:T} {r ri rj c st:Nat} {slc:Bool} {el sz:Nat} {cs:List AV} (qq':T) (b':List (Nat × Obj)) (hin:(P.info? st).isSome=true) (hcl:P.cellsOf st=c)
 (hx:AJ s x=some (.adr r ri rj):=by exact rfl) (hy:AJ s y=some u:=by exact rfl) (ho:Al b r=some ⟨slc,el,sz,l.map f,true⟩:=by exact rfl) (hl:l[ri]?= some qq:=by assumption) (hc:cellsAV u=some cs:=by exact rfl)
 (hchk:(Nat.ble (rj+cs.length) (f qq).length && Nat.beq cs.length c)=true:=by exact rfl) (hsp:splice (f qq) rj cs=f qq':=by exact rfl) (hcl':closedL cs=true:=by exact rfl) (hdel:Ct b r=b':=by exact rfl)
 (hg:AL (AU ops) ⟨s,b,n,t,e⟩ g=some true:=by exact rfl) (h:SeqL P ops rest ⟨s,(r,⟨slc,el,sz,(l.set ri qq').map f,true⟩) :: b',n,t,e⟩ Q):SeqL P ops (⟨none, .store st x y,ty,pos,aft,g⟩ :: rest) ⟨s,b,n,t,e⟩ Q:=by
 exact Og (row:=f qq) hg hin hcl hx hy ho (by rw [List.getElem?_map,hl];rfl) hc hchk hsp (by rw [List.map_set]) (by simpa using hcl') hdel h
theorem JK {T:Type} {f:T→List AV} {el c:Nat}:Fj ⟨s,b,n,t,e⟩ el c (.lit (.slice none 0 0))=some (none,([]:List T).map f,true):=rfl
theorem A3 {T:Type} {f:T→List AV} {l:List T} {r el c m:Nat} (ho:Al b r=some ⟨true,el,c,l.map f,true⟩:=by exact rfl) (hm:l.length=m:=by first | exact rfl | simp):Fj ⟨s,b,n,t,e⟩ el c (.als r 0 m)=some (some r,l.map f,true):=Ug ho (by rw [List.length_map,hm])
structure RowsW (σ:St) (v:AV) (c:Nat) (rows:List (List AV)):Prop where
 r:IW σ v=some (c,rows,true)
 w:Gc σ v=true
theorem Tn {T:Type} {f:T→List AV} {l:List T} {slc:Bool} {r el c m:Nat} (ho:Al b r=some ⟨slc,el,c,l.map f,true⟩:=by exact rfl) (hm:l.length=m:=by first | exact rfl | simp):RowsW ⟨s,b,n,t,e⟩ (.als r 0 m) c (l.map f):=⟨UR ho (by rw [List.length_map,hm]),RY ho (by rw [List.length_map,hm])⟩
theorem A7 {T:Type} {f:T→List AV} (l:List T) {rows:List (List AV)} {slc:Bool} {r el c m:Nat} (ho:Al b r=some ⟨slc,el,c,rows,true⟩:=by exact rfl) (hr:rows=l.map f:=by exact rfl) (hm:l.length=m:=by first | exact rfl | simp):RowsW ⟨s,b,n,t,e⟩ (.als r 0 m) c (l.map f):=by
 subst hr;exact Tn ho hm
theorem MC {T:Type} {f:T→List AV} {l:List T} {c:Nat}:RowsW ⟨s,b,n,t,e⟩ (.sh c (l.map f)) c (l.map f):=⟨rfl,rfl⟩
theorem AW {T:Type} {f:T→List AV} {l1 l2:List T} {st el c:Nat} {zs:List AV} {hr0:Option Nat} {by':Nat} (b':List (Nat × Obj)) (hel:A9 P st=some el) (hze:AK P el=some zs) (hcl:P.cellsOf el=c) (hby:P.bytesOf el=by')
 (hx:AJ s x=some u:=by exact rfl) (hy:AJ s y=some v:=by exact rfl) (hh:Fj ⟨s,b,n,t,e⟩ el c u=some (hr0,l1.map f,true)) (hr:RowsW ⟨s,b,n,t,e⟩ v c (l2.map f))
 (hz:(Nat.beq zs.length c && !Nat.beq c 0)=true:=by exact rfl)
 (hm1:(l1.length+l2.length) * by'≤140737488355328:=by (try simp only [List.length_append,List.length_cons,List.length_nil,List.length_map]);omega) (hm2:l1.length+l2.length≤140737488355328:=by (try simp only [List.length_append,List.length_cons,List.length_nil,List.length_map]);omega)
 (hb':St.drop1 ⟨s,b,n,t,e⟩ hr0=b':=by exact rfl) (hg:AL (AU ops) ⟨s,b,n,t,e⟩ g=some true:=by exact rfl) (hd:Nat.blt d t=true:=by exact rfl) (h:SeqL P ops rest ⟨(d, .als n 0 (l1 ++ l2).length) :: s,(n,⟨true,el,c,(l1 ++ l2).map f,true⟩) :: b',n+1,t,e⟩ Q) :
 SeqL P ops (⟨some d, .call { callee:= .builtin .append,args:= #[x,y],argTypes:= #[st,st] },ty,pos,aft,g⟩ :: rest) ⟨s,b,n,t,e⟩ Q :=
 YJ (cl':=true) (m:=(l1 ++ l2).length) hg hd hel hze hcl hby hz hx hy hh hr.r hr.w (by simp) (by simpa using hm1) (by simpa using hm2) (by simp) rfl hb' h
theorem Ay {as:Array Operand} {ts:Array TypeId} {f:FuncId} {first caps:List AV} {vs:List AV} {v v':AV} (hc:calleeOf (St.ev ⟨s,b,n,t,e⟩ x)=some (f,first,caps):=by exact rfl) (hv:C7 ⟨s,b,n,t,e⟩ (first ++ (as.toList.map (St.ev ⟨s,b,n,t,e⟩) ++ caps))=some vs:=by exact rfl) (hF:Fun P f vs (AI v []))
 (hm:closedL (first ++ (as.toList.map (St.ev ⟨s,b,n,t,e⟩) ++ caps))=true∨noShAV v=true:=by first | exact .inl rfl | exact .inr rfl) (hl:Fl n v=some v':=by exact rfl)
 (hg:AL (AU ops) ⟨s,b,n,t,e⟩ g=some true:=by exact rfl) (hd:Nat.blt d t=true:=by exact rfl) (h:SeqL P ops rest ⟨(d,v') :: s,b,n,t,e⟩ Q) :
 SeqL P ops (⟨some d, .call { callee:= .value x,args:=as,argTypes:=ts },ty,pos,aft,g⟩ :: rest) ⟨s,b,n,t,e⟩ Q:=by
 refine SeqL.call hg rfl hc hv hF ?_ (fun d' h'=>by cases h';exact Nat.le_of_ble_eq_true hd) ?_
 ·rcases hm with hm | hm
  ·exact .inl hm
  refine .inr ?_;rintro u l ⟨rfl,rfl⟩;exact ⟨hm,fun r ob h=>by simp [Al] at h⟩
 rintro u l ⟨rfl,rfl⟩;exact ⟨v',[],n,hl,rfl,fun r ob h=>by simp [Al] at h,Nat.le_refl _,h⟩
theorem Oe {as:Array Operand} {ts:Array TypeId} {f:FuncId} {first caps:List AV} {vs:List AV} {o:Obj} {m:Nat} (hc:calleeOf (St.ev ⟨s,b,n,t,e⟩ x)=some (f,first,caps):=by exact rfl) (hv:C7 ⟨s,b,n,t,e⟩ (first ++ (as.toList.map (St.ev ⟨s,b,n,t,e⟩) ++ caps))=some vs:=by exact rfl) (hF:Fun P f vs (AI (.als 0 0 m) [(0,o)]))
 (hm:closedL (first ++ (as.toList.map (St.ev ⟨s,b,n,t,e⟩) ++ caps))=true:=by exact rfl) (ho:o.cl=true:=by exact rfl)
 (hg:AL (AU ops) ⟨s,b,n,t,e⟩ g=some true:=by exact rfl) (hd:Nat.blt d t=true:=by exact rfl) (h:SeqL P ops rest ⟨(d, .als n 0 m) :: s,(n,o) :: b,n+1,t,e⟩ Q) :
 SeqL P ops (⟨some d, .call { callee:= .value x,args:=as,argTypes:=ts },ty,pos,aft,g⟩ :: rest) ⟨s,b,n,t,e⟩ Q:=by
 refine SeqL.call hg rfl hc hv hF (.inl hm) (fun d' h'=>by cases h';exact Nat.le_of_ble_eq_true hd) ?_;rintro u l ⟨rfl,rfl⟩;refine ⟨.als n 0 m,[(n,o)],n+1,by simp [Fl,BX],?_,fun r ob h=>S7 h,Nat.le_succ _,h⟩;simp only [Di,Cz,ho,Nat.zero_add]
section draws
variable {l:List Oper} {gs:List (Option Nat)} {nx K c:Nat}
end draws
theorem Aa (hx:AJ s x=some v:=by exact rfl):At P ⟨s,b,n,t,e⟩ id (.move x)=some (v,[]):=Xu hx
theorem Ad (hx:AJ s x=some v:=by exact rfl):At P ⟨s,b,n,t,e⟩ id (.assign x)=some (v,[]):=UI hx
theorem AF (hz:AJ s z=some (.lit (.bool true)):=by exact rfl) (hx:AJ s x=some v:=by exact rfl):At P ⟨s,b,n,t,e⟩ id (.pick z x y)=some (v,[]):=UM hz hx
theorem AE (hz:AJ s z=some (.lit (.bool false)):=by exact rfl) (hy:AJ s y=some v:=by exact rfl):At P ⟨s,b,n,t,e⟩ id (.pick z x y)=some (v,[]):=UL hz hy
theorem As (hx:AJ s x=some (.lit (.int k i)):=by exact rfl) (hy:AJ s y=some (.lit (.int k j)):=by exact rfl):At P ⟨s,b,n,t,e⟩ id (.binOp .lss ty x y d)=some (.lit (.bool (decide (i < j))),[]):=Y1 hx hy
theorem Cb (hx:AJ s x=some (.lit (.int k i)):=by exact rfl) (hy:AJ s y=some (.lit (.int k j)):=by exact rfl):At P ⟨s,b,n,t,e⟩ id (.binOp .leq ty x y d)=some (.lit (.bool (decide (i≤j))),[]):=Y0 hx hy
theorem Be (hx:AJ s x=some (.lit (.int k i)):=by exact rfl) (hy:AJ s y=some (.lit (.int k j)):=by exact rfl):At P ⟨s,b,n,t,e⟩ id (.binOp .gtr ty x y d)=some (.lit (.bool (decide (j < i))),[]):=Yx hx hy
theorem BR (hx:AJ s x=some (.lit (.int k i)):=by exact rfl) (hy:AJ s y=some (.lit (.int k j)):=by exact rfl):At P ⟨s,b,n,t,e⟩ id (.binOp .geq ty x y d)=some (.lit (.bool (decide (j≤i))),[]):=Yw hx hy
theorem Bk (hx:AJ s x=some (.lit (.int k i)):=by exact rfl) (hy:AJ s y=some (.lit (.int k j)):=by exact rfl):At P ⟨s,b,n,t,e⟩ id (.binOp .eql ty x y d)=some (.lit (.bool (decide (i=j))),[]):=Yu hx hy
theorem Bn (hx:AJ s x=some (.lit (.int k i)):=by exact rfl) (hy:AJ s y=some (.lit (.int k j)):=by exact rfl):At P ⟨s,b,n,t,e⟩ id (.binOp .neq ty x y d)=some (.lit (.bool (!decide (i=j))),[]):=Y7 hx hy
theorem Ax (hx:AJ s x=some (.lit (.int .i64 i)):=by exact rfl) (hy:AJ s y=some (.lit (.int .i64 j)):=by exact rfl) (h1: -9223372036854775808≤i+j:=by first | omega | assumption) (h2:i+j≤9223372036854775807:=by first | omega | assumption):At P ⟨s,b,n,t,e⟩ id (.binOp .add ty x y d)=some (.lit (.int .i64 (i+j)),[]):=Ys hx hy h1 h2
theorem BK (hx:AJ s x=some (.lit (.int .i64 i)):=by exact rfl) (hy:AJ s y=some (.lit (.int .i64 j)):=by exact rfl) (h1: -9223372036854775808≤i - j:=by first | omega | assumption) (h2:i - j≤9223372036854775807:=by first | omega | assumption):At P ⟨s,b,n,t,e⟩ id (.binOp .sub ty x y d)=some (.lit (.int .i64 (i - j)),[]):=YA hx hy h1 h2
theorem BC (hx:AJ s x=some (.lit (.int .i64 i)):=by exact rfl) (hy:AJ s y=some (.lit (.int .i64 j)):=by exact rfl) (h1: -9223372036854775808≤i * j:=by first | omega | assumption) (h2:i * j≤9223372036854775807:=by first | omega | assumption):At P ⟨s,b,n,t,e⟩ id (.binOp .mul ty x y d)=some (.lit (.int .i64 (i * j)),[]):=Y4 hx hy h1 h2
theorem NV (hx:AJ s x=some (.lit (.int .i64 i)):=by exact rfl) (hy:AJ s y=some (.lit (.int .i64 j)):=by exact rfl) (h1:0≤i:=by first | omega | assumption) (h2:i≤9223372036854775807:=by first | omega | assumption) (h3:0 < j:=by first | omega | assumption):At P ⟨s,b,n,t,e⟩ id (.binOp .quo ty x y d)=some (.lit (.int .i64 (i / j)),[]):=Y8 hx hy h1 h2 h3
theorem Yq (hx:AJ s x=some (.lit (.int .i64 i)):=by exact rfl) (hy:AJ s y=some (.lit (.int .i64 j)):=by exact rfl) (h1:0≤i:=by first | omega | assumption) (h3:j≠0:=by first | omega | assumption):At P ⟨s,b,n,t,e⟩ id (.binOp .rem ty x y d)=some (.lit (.int .i64 (i % j)),[]):=Y9 hx hy h1 h3
theorem F5 (hx:AJ s x=some (.lit (.int .i64 i)):=by exact rfl) (h1: -9223372036854775808≤0 - i:=by first | omega | assumption) (h2:0 - i≤9223372036854775807:=by first | omega | assumption):At P ⟨s,b,n,t,e⟩ id (.unOp .neg ty x)=some (.lit (.int .i64 (0 - i)),[]):=Y6 hx h1 h2
theorem Bw {c:Bool} (hx:AJ s x=some (.lit (.bool c)):=by exact rfl):At P ⟨s,b,n,t,e⟩ id (.unOp .not ty x)=some (.lit (.bool (!c)),[]):=RB hx
theorem IT (hx:AJ s x=some (.lit (.bool true)):=by exact rfl):At P ⟨s,b,n,t,e⟩ id (.unOp .not ty x)=some (.lit (.bool false),[]):=RB hx
theorem LU (hx:AJ s x=some (.lit (.bool false)):=by exact rfl):At P ⟨s,b,n,t,e⟩ id (.unOp .not ty x)=some (.lit (.bool true),[]):=RB hx
theorem DE {ts:Array TypeId} (hx:AJ s x=some (.lit (.int k i)):=by exact rfl) (hy:AJ s y=some (.lit (.int k j)):=by exact rfl):At P ⟨s,b,n,t,e⟩ id (.call { callee:= .builtin .max,args:= #[x,y],argTypes:=ts })=some (.lit (.int k (max i j)),[]):=Y2 hx hy
theorem LS {ts:Array TypeId} (hx:AJ s x=some (.lit (.int k i)):=by exact rfl) (hy:AJ s y=some (.lit (.int k j)):=by exact rfl):At P ⟨s,b,n,t,e⟩ id (.call { callee:= .builtin .min,args:= #[x,y],argTypes:=ts })=some (.lit (.int k (min i j)),[]):=Y3 hx hy
theorem DX {st el:Nat} (he:A9 P st=some el) (hx:AJ s x=some (.lit (.slice none 0 0)):=by exact rfl):At P ⟨s,b,n,t,e⟩ id (.call { callee:= .builtin .len,args:= #[x],argTypes:= #[st] })=some (.lit (.int .i64 0),[]):=R9 he hx rfl
theorem Fq {st el r lo m:Nat} (he:A9 P st=some el) (hx:AJ s x=some (.als r lo m):=by exact rfl):At P ⟨s,b,n,t,e⟩ id (.call { callee:= .builtin .len,args:= #[x],argTypes:= #[st] })=some (.lit (.int .i64 (m:Int)),[]):=R9 he hx rfl
theorem A5 {T:Type} {f:T→List AV} {l:List T} {st el c:Nat} (he:A9 P st=some el) (hx:AJ s x=some (.sh c (l.map f)):=by exact rfl):At P ⟨s,b,n,t,e⟩ id (.call { callee:= .builtin .len,args:= #[x],argTypes:= #[st] })=some (.lit (.int .i64 (l.length:Int)),[]):=R9 he hx (by simp [lenAV])
theorem NU {sd dd:TypeId} (hd:P.underlying dd=some (.int .i64)) (hs:(P.underlying sd).isSome=true) (hx:AJ s x=some (.lit (.int k i)):=by exact rfl) (h1: -9223372036854775808≤i:=by first | omega | assumption) (h2:i≤9223372036854775807:=by first | omega | assumption):At P ⟨s,b,n,t,e⟩ id (.convert sd dd x)=some (.lit (.int .i64 i),[]):=Pc hd hs hx (G7 h1 h2)
variable {r ri rj rj':Nat}
theorem G8 {α:Type} {row:List α} {rj:Nat} {v:α} (h:row[rj]?= some v):row.drop rj=v :: row.drop (rj+1):=by
 obtain ⟨hl,rfl⟩:=List.getElem?_eq_some_iff.1 h;exact List.drop_eq_getElem_cons hl
theorem Ao {lt:Nat} {o:Obj} {row:List AV} (ha:Bi P lt=some false) (hx:AJ s x=some (.adr r ri rj):=by exact rfl) (ho:Al b r=some o:=by exact rfl) (hr:o.rows[ri]?= some row:=by exact rfl) (hc:row[rj]?= some v:=by exact rfl):At P ⟨s,b,n,t,e⟩ id (.load lt x)=some (v,[]) :=
 MA ha hx (GI ho hr (G8 hc))
theorem Ee {T:Type} {f:T→List AV} {l:List T} {qq:T} {lt:Nat} {slc cl:Bool} {el c:Nat} (ha:Bi P lt=some false) (hx:AJ s x=some (.adr r ri rj):=by exact rfl) (ho:Al b r=some ⟨slc,el,c,l.map f,cl⟩:=by exact rfl) (hl:l[ri]?= some qq:=by assumption) (hc:(f qq)[rj]?= some v:=by exact rfl):At P ⟨s,b,n,t,e⟩ id (.load lt x)=some (v,[]) :=
 Ao (row:=f qq) ha hx ho (by simp only [List.getElem?_map,hl,Option.map_some]) hc
theorem AO {lt:Nat} {row:List AV} (ha:Bi P lt=some false) (hx:AJ s x=some (.sadr row rj):=by exact rfl) (hc:row[rj]?= some v:=by exact rfl):At P ⟨s,b,n,t,e⟩ id (.load lt x)=some (v,[]) :=
 MA ha hx (Lw (G8 hc))
theorem A6 {lt c:Nat} {o:Obj} {row:List AV} (cs:List AV) (ha:Bi P lt=some true) (hcl:P.cellsOf lt=c) (hx:AJ s x=some (.adr r ri rj):=by exact rfl) (ho:Al b r=some o:=by exact rfl) (hr:o.rows[ri]?= some row:=by exact rfl) (hb:Nat.ble c (row.drop rj).length=true:=by exact rfl) (hc:(row.drop rj).take c=cs:=by exact rfl):At P ⟨s,b,n,t,e⟩ id (.load lt x)=some (.agg cs,[]) :=
 Q3 ha hcl hx (GI ho hr rfl) hb hc
theorem Yp {T:Type} {f:T→List AV} {l:List T} {qq:T} {lt:Nat} {slc cl:Bool} {el c c0:Nat} (cs:List AV) (ha:Bi P lt=some true) (hcl:P.cellsOf lt=c) (hx:AJ s x=some (.adr r ri rj):=by exact rfl) (ho:Al b r=some ⟨slc,el,c0,l.map f,cl⟩:=by exact rfl) (hl:l[ri]?= some qq:=by assumption) (hb:Nat.ble c ((f qq).drop rj).length=true:=by exact rfl) (hc:((f qq).drop rj).take c=cs:=by exact rfl):At P ⟨s,b,n,t,e⟩ id (.load lt x)=some (.agg cs,[]) :=
 A6 (row:=f qq) cs ha hcl hx ho (by simp only [List.getElem?_map,hl,Option.map_some]) hb hc
theorem Bv {lt c:Nat} {row:List AV} (cs:List AV) (ha:Bi P lt=some true) (hcl:P.cellsOf lt=c) (hx:AJ s x=some (.sadr row rj):=by exact rfl) (hb:Nat.ble c (row.drop rj).length=true:=by exact rfl) (hc:(row.drop rj).take c=cs:=by exact rfl):At P ⟨s,b,n,t,e⟩ id (.load lt x)=some (.agg cs,[]) :=
 Q3 ha hcl hx (Lw rfl) hb hc
theorem An {st f off ft c:Nat} (rj':Nat) (hf:AX P st f=some (off,ft)) (hcl:P.cellsOf ft=c) (hx:AJ s x=some (.adr r ri rj):=by exact rfl) (hj:rj+off=rj':=by exact rfl) (hc:Nat.beq c 0=false:=by exact rfl):At P ⟨s,b,n,t,e⟩ id (.fieldAddr st x f)=some (.adr r ri rj',[]):=YT hf hcl hc hx hj
theorem BH {st f off ft c:Nat} {row:List AV} (rj':Nat) (hf:AX P st f=some (off,ft)) (hcl:P.cellsOf ft=c) (hx:AJ s x=some (.sadr row rj):=by exact rfl) (hj:rj+off=rj':=by exact rfl) (hc:Nat.beq c 0=false:=by exact rfl):At P ⟨s,b,n,t,e⟩ id (.fieldAddr st x f)=some (.sadr row rj',[]):=Yv hf hcl hc hx hj
theorem OZ {st f off ft:Nat} {cs:List AV} (hf:AX P st f=some (off,ft)) (ha:Bi P ft=some false) (hx:AJ s x=some (.agg cs):=by exact rfl) (hv:cs[off]?= some v:=by exact rfl):At P ⟨s,b,n,t,e⟩ id (.field st x f)=some (v,[]):=UK hf ha hx hv
theorem BT {st el c m:Nat} {o:Obj} (hel:A9 P st=some el) (hcl:P.cellsOf el=c) (hx:AJ s x=some (.als r 0 m):=by exact rfl) (hy:AJ s y=some (.lit (.int k i)):=by exact rfl) (h0:0≤i:=by first | omega | assumption) (h1:i < m:=by first | omega | assumption) (ho:Al b r=some o:=by exact rfl) (hsz:o.sz=c:=by exact rfl) (hc:Nat.beq c 0=false:=by exact rfl):At P ⟨s,b,n,t,e⟩ id (.indexAddr st x y)=some (.adr r i.toNat 0,[]):=YU hel hcl hc hx hy ho hsz h0 h1 (Nat.zero_add _)
theorem Bs {st el len c:Nat} (hel:A9 P st=none) (har:E7 P st=some (len,el)) (hcl:P.cellsOf el=c) (hx:AJ s x=some (.adr r ri rj):=by exact rfl) (hy:AJ s y=some (.lit (.int k i)):=by exact rfl) (h0:0≤i:=by first | omega | assumption) (h1:i < len:=by first | omega | assumption) (hc:Nat.beq c 0=false:=by exact rfl):At P ⟨s,b,n,t,e⟩ id (.indexAddr st x y)=some (.adr r ri (rj+i.toNat * c),[]):=Yy hel har hcl hc hx hy h0 h1 rfl
theorem R5 {lt:Nat} {o:Obj} {row:List AV} (v:AV) (ha:Bi P lt=some false) (hx:AJ s x=some (.adr r ri rj):=by exact rfl) (ho:Al b r=some o:=by exact rfl) (hr:o.rows[ri]?= some row:=by exact rfl) (hc:row[rj]?= some v):At P ⟨s,b,n,t,e⟩ id (.load lt x)=some (v,[]) :=
 MA ha hx (GI ho hr (G8 hc))
theorem DW {bt el len c:Nat} {parts:List (Nat × Operand)} {zs:List AV} {vs:List (Nat × AV)} (cs:List AV) (hz:AK P bt=some zs) (hpl:Ci P bt=none) (har:E7 P bt=some (len,el)) (hcl:P.cellsOf el=c) (hp:IB s parts=some vs:=by exact rfl) (hf:FD (fun k=>some (k * c,c)) zs vs=some cs:=by exact rfl) (hc:Nat.beq c 0=false:=by exact rfl):At P ⟨s,b,n,t,e⟩ id (.build bt ⟨parts⟩)=some (.agg cs,[]):=UJ hz hpl har hcl hc hp hf
theorem AQ {T:Type} {f:T→List AV} {l:List T} {qq:T} {st el c:Nat} (hel:A9 P st=some el) (hcl:P.cellsOf el=c) (hx:AJ s x=some (.sh c (l.map f)):=by exact rfl) (hy:AJ s y=some (.lit (.int k i)):=by exact rfl) (hl:0≤i∧l[i.toNat]?= some qq:=by assumption) (hc:Nat.beq c 0=false:=by exact rfl):At P ⟨s,b,n,t,e⟩ id (.indexAddr st x y)=some (.sadr (f qq) 0,[]):=by
 exact Yz hel hcl hc hx hy hl.1 (by simp only [List.getElem?_map,hl.2,Option.map_some])
theorem AT {at' c:Nat} {cs:List AV} (hz:AK P at'=some cs) (hc:cs.length=c:=by exact rfl):At P ⟨s,b,n,t,e⟩ id (.alloc at')=some (.adr id 0 0,[(id,⟨false,at',c,[cs],true⟩)]):=We hz hc
theorem Bo {bt c:Nat} (cs:List AV) (cl:Bool) (hx:AJ s x=some u:=by exact rfl) (hc:cellsAV u=some cs:=by exact rfl) (hl:cs.length=c:=by exact rfl) (hcl:closedL cs=cl:=by exact rfl):At P ⟨s,b,n,t,e⟩ id (.box bt x)=some (.adr id 0 0,[(id,⟨false,bt,c,[cs],cl⟩)]):=Yt hx hc hl hcl
theorem AH {c:Nat} {vs:List AV} (hx:AJ s x=some (.tup vs):=by exact rfl) (hv:vs[c]?= some v:=by exact rfl):At P ⟨s,b,n,t,e⟩ id (.extract x c)=some (v,[]):=Ti hx hv
theorem AP (hx:AJ s x=some (.adr r ri rj):=by exact rfl):At P ⟨s,b,n,t,e⟩ id (.nilCheck x)=some (.adr r ri rj,[]):=YV hx
theorem K0 {row:List AV} (hx:AJ s x=some (.sadr row rj):=by exact rfl):At P ⟨s,b,n,t,e⟩ id (.nilCheck x)=some (.sadr row rj,[]):=Y5 hx
theorem Bg {bt:Nat} {parts:List (Nat × Operand)} {zs:List AV} {pl:List (Nat × Nat)} {vs:List (Nat × AV)} (cs:List AV) (hz:AK P bt=some zs) (hpl:Ci P bt=some pl) (hp:IB s parts=some vs:=by exact rfl) (hf:FD (fun i=>pl[i]?) zs vs=some cs:=by exact rfl):At P ⟨s,b,n,t,e⟩ id (.build bt ⟨parts⟩)=some (.agg cs,[]):=Wf hz hpl hp hf
theorem Bf {bt el len c:Nat} {parts:List (Nat × Operand)} {zs:List AV} {vs:List (Nat × AV)} (rows:List (List AV)) (cl:Bool) (hel:A9 P bt=some el) (hz:AK P el=some zs) (hcl:P.cellsOf el=c) (hp:IB s parts=some vs:=by exact rfl) (hr:GS c 0 vs=some rows:=by exact rfl) (hc:(Nat.beq zs.length c && !Nat.beq c 0 && Nat.beq rows.length len && Nat.ble (len * c) 16777216)=true:=by exact rfl) (hcc:closedR rows=cl:=by exact rfl) :
 At P ⟨s,b,n,t,e⟩ id (.buildSlice bt len ⟨parts⟩)=some (.als id 0 len,[(id,⟨true,el,c,rows,cl⟩)]):=Pb hel hz hcl hp hr hc hcc
theorem EE {f:Fn} {first caps:List Operand} {vs ws:List AV} (h1:JY s first=some vs:=by exact rfl) (h2:JY s caps=some ws:=by exact rfl):At P ⟨s,b,n,t,e⟩ id (.makeFunc f ⟨first⟩ ⟨caps⟩)=some (.fn f vs ws,[]):=RA h1 h2
theorem R8 {st el c lo0 m:Nat} {zl zh:Int} {lo hi:Option Operand} {o:Obj} (hel:A9 P st=some el) (hcl:P.cellsOf el=c) (hx:AJ s x=some (.als r lo0 m):=by exact rfl) (hlo:HH s 0 lo=some zl:=by exact rfl) (hhi:HH s m hi=some zh:=by exact rfl) (h0:0≤zl:=by first | omega | assumption) (h1:zl≤zh:=by first | omega | assumption) (h2:zh≤m:=by first | omega | assumption) (ho:Al b r=some o:=by exact rfl) (hsz:o.sz=c:=by exact rfl) (hc:Nat.beq c 0=false:=by exact rfl) :
 At P ⟨s,b,n,t,e⟩ id (.slice st x lo hi none)=some (.als r (lo0+zl.toNat) (zh.toNat - zl.toNat),[]):=Wh (l':=0) (h':=0) hel hcl hc hx hlo hhi h0 h1 h2 ho hsz rfl rfl
theorem R7 {T:Type} {f:T→List AV} {l:List T} {st el c:Nat} {zl zh:Int} {lo hi:Option Operand} (hel:A9 P st=some el) (hcl:P.cellsOf el=c) (hx:AJ s x=some (.sh c (l.map f)):=by exact rfl) (hlo:HH s 0 lo=some zl:=by exact rfl) (hhi:HH s (l.map f).length hi=some zh:=by exact rfl) (h0:0≤zl:=by first | omega | assumption) (h1:zl≤zh:=by first | omega | (simp only [List.length_map] at *;omega)) (h2:zh≤(l.map f).length:=by first | omega | (simp only [List.length_map];omega)) (hc:Nat.beq c 0=false:=by exact rfl) :
 At P ⟨s,b,n,t,e⟩ id (.slice st x lo hi none)=some (.sh c (((l.drop zl.toNat).take (zh.toNat - zl.toNat)).map f),[]):=UN (l':=0) (h':=0) hel hcl hc hx hlo hhi h0 h1 h2 (by rw [List.map_take,List.map_drop])
end rules
section control
variable {P:Program} {s:List (Nat × AV)} {b:List (Nat × Obj)} {n t e:Nat} {Q:Exit→St→Prop}
theorem En {c:Operand} {x y:Code} {bb:Bool} (ht:bb=true→Ev P x ⟨s,b,n,t,e⟩ Q) (hf:bb=false→Ev P y ⟨s,b,n,t,e⟩ Q) (hc:AJ s c=some (.lit (.bool bb)):=by exact rfl):Ev P (.cond c x y) ⟨s,b,n,t,e⟩ Q:=Mk (AB hc) ht hf
theorem Az {c:Operand} {x y:Code} {p:Prop} [Decidable p] (ht:p→Ev P x ⟨s,b,n,t,e⟩ Q) (hf:¬ p→Ev P y ⟨s,b,n,t,e⟩ Q) (hc:AJ s c=some (.lit (.bool (decide p))):=by exact rfl):Ev P (.cond c x y) ⟨s,b,n,t,e⟩ Q:=En (fun h=>ht (of_decide_eq_true h)) (fun h=>hf (of_decide_eq_false h)) hc
theorem Bh {c:Operand} {x y:Code} {p:Prop} [Decidable p] (ht:¬ p→Ev P x ⟨s,b,n,t,e⟩ Q) (hf:p→Ev P y ⟨s,b,n,t,e⟩ Q) (hc:AJ s c=some (.lit (.bool (!decide p))):=by exact rfl):Ev P (.cond c x y) ⟨s,b,n,t,e⟩ Q:=En (fun h=>ht (by simpa using h)) (fun h=>hf (by simpa using h)) hc
theorem BI {c:Operand} {x y:Code} (h:Ev P x ⟨s,b,n,t,e⟩ Q) (hc:AJ s c=some (.lit (.bool true)):=by exact rfl):Ev P (.cond c x y) ⟨s,b,n,t,e⟩ Q:=Mk (AB hc) (fun _=>h) (fun h=>by cases h)
theorem Cw {c:Operand} {x y:Code} (h:Ev P y ⟨s,b,n,t,e⟩ Q) (hc:AJ s c=some (.lit (.bool false)):=by exact rfl):Ev P (.cond c x y) ⟨s,b,n,t,e⟩ Q:=Mk (AB hc) (fun h=>by cases h) (fun _=>h)
theorem Ab {σ:St} {id:Nat} {l:List Oper} {y:Code} (h:∀ K:St→Prop,(∀ σ',Ev P y σ' Q→K σ')→SeqL P ⟨l⟩ l σ K):Ev P (.seq (.region id ⟨l⟩ false) y) σ Q:=Aj (Ah fun K hK=>h K fun σ' h'=>hK σ' h')
theorem BW {id:Nat} {l:List Oper} {y:Code} (T:List (List Bool)) (K:Nat) (h:∀ Kt:St→Prop,(∀ σ',Ev P y σ' Q→Kt σ')→DM P l T (n+4 * K) (Mw P l (n+4 * K) Kt) l K 0 ⟨s,b,n,t,e⟩ []) (hm:P.follows .mixedOrders=true:=by exact rfl) (hok:IL l T ⟨s,b,n,t,e⟩ K=true:=by exact rfl)
 (hch:E5 l T K=true:=by exact rfl) (hTl:Nat.ble K T.length=true:=by exact rfl) (hkb:FE n b=true:=by exact rfl):Ev P (.seq (.region id ⟨l⟩ true) y) ⟨s,b,n,t,e⟩ Q:=Aj (CP T K (fun Kt hK=>h Kt fun σ' h'=>hK σ' h') hm hok hch hTl hkb)
theorem AG {c:Operand} {x y:Code} {p:Prop} [Decidable p] (ht:p→Ev P y ⟨s,b,n,t,e⟩ Q) (hf:¬ p→Ev P x ⟨s,b,n,t,e⟩ (GF (fun σ'=>Ev P y σ' Q) Q)) (hc:AJ s c=some (.lit (.bool (decide p))):=by exact rfl):Ev P (.seq (.cond c .skip x) y) ⟨s,b,n,t,e⟩ Q:=Aj (Az (fun h=>Am (ht h)) hf hc)
mutual
theorem Kd (ρ:Nat→Option Nat):∀ v:AV,closedAV v=true→BX ρ v=some v
 |.als _ _ _,h=>by simp [closedAV] at h
 |.adr _ _ _,h=>by simp [closedAV] at h
 |.agg cs,h=>by simp only [closedAV] at h;simp only [BX,FG ρ cs h,Option.map_some]
 |.tup cs,h=>by simp only [closedAV] at h;simp only [BX,FG ρ cs h,Option.map_some]
 |.fn f first caps,h=>by simp only [closedAV,Bool.and_eq_true] at h;simp only [BX,FG ρ first h.1,FG ρ caps h.2]
 |.top,_=>rfl
 |.lit v,_=>rfl
 |.sh _ _,_=>rfl
 |.sadr _ _,_=>rfl
 |.hd _,h=>by simp [closedAV] at h
 |.shm _ _,_=>rfl
 |.rem _ _ _,_=>rfl
theorem FG (ρ:Nat→Option Nat):∀ l:List AV,closedL l=true→Ef ρ l=some l
 |[],_=>rfl
 |c :: cs,h=>by simp only [closedL,Bool.and_eq_true] at h;simp only [Ef,Kd ρ c h.1,FG ρ cs h.2]
end
theorem H7 {P:Program} {rs:List ResultVar} {Post:AV→List (Nat × Obj)→Prop} {σ:St} {vs:List AV} (hr:C2 P σ rs=some vs) (hc:closedAV (packAV vs)=true) (h:Post (packAV vs) []):Fg P rs Post .ret σ:=by
 refine ⟨[],List.nodup_nil,?_⟩;simp only [Jq,hr,Kd _ _ hc,BG];exact h
variable {Post:AV→List (Nat × Obj)→Prop} {u v w x y:AV} {r1 r2 r3 r4 r5:Nat}
theorem IF (h:Post v []) (h1:Al s r1=some v:=by exact rfl) (hc:closedAV v=true:=by exact rfl):Fg P [.tmp r1] Post .ret ⟨s,b,n,t,e⟩ :=
 H7 (vs:=[v]) (by simp [C2,St.get,h1]) hc h
theorem Cx (h:Post (.tup [u,v]) []) (h1:Al s r1=some u:=by exact rfl) (h2:Al s r2=some v:=by exact rfl) (hc:closedL [u,v]=true:=by exact rfl):Fg P [.tmp r1, .tmp r2] Post .ret ⟨s,b,n,t,e⟩ :=
 H7 (vs:=[u,v]) (by simp [C2,St.get,h1,h2]) (by simpa [packAV,closedAV] using hc) h
theorem IG (h:Post (.tup [u,v,w]) []) (h1:Al s r1=some u:=by exact rfl) (h2:Al s r2=some v:=by exact rfl) (h3:Al s r3=some w:=by exact rfl) (hc:closedL [u,v,w]=true:=by exact rfl):Fg P [.tmp r1, .tmp r2, .tmp r3] Post .ret ⟨s,b,n,t,e⟩ :=
 H7 (vs:=[u,v,w]) (by simp [C2,St.get,h1,h2,h3]) (by simpa [packAV,closedAV] using hc) h
theorem Wk.frz {T:Type} {f:T→List AV} {l:List T} (d:Nat) (b':List (Nat × Obj)) {slc:Bool} {r el c m:Nat} (hs:Al s d=some (.als r 0 m):=by exact rfl) (ho:Al b r=some ⟨slc,el,c,l.map f,true⟩:=by exact rfl) (hm:l.length=m:=by first | exact rfl | simp) (hk:Nat.ble e r=true:=by exact rfl) (hb:Ct b r=b':=by exact rfl) :
 Wk ⟨s,b,n,t,e⟩ ⟨(d, .sh c (l.map f)) :: s,b',n,t,e⟩:=by
 subst hb hm;have:=Wk.freeze (σ:=⟨s,b,n,t,e⟩) d (r:=r) (lo:=0) (n:=l.length) (by simp [St.get,hs]) ho rfl (by simp) (Nat.le_of_ble_eq_true hk);simp only [List.drop_zero] at this
 rwa [List.take_of_length_le (by simp)] at this
theorem Wk.nsh {T:Type} (f:T→List AV) (d c:Nat) (hs:Al s d=some (.lit (.slice none 0 0)):=by exact rfl):Wk ⟨s,b,n,t,e⟩ ⟨(d, .sh c (([]:List T).map f)) :: s,b,n,t,e⟩:=by
 intro C E X a h;refine ⟨E,X,rfl,⟨fun s' v hv=>?_,h.size,h.defers,h.objs,h.apart,h.stay,h.fresh,h.kept,h.mine,h.env,h.envD,h.base,h.grow,h.envk,h.glob⟩⟩;rw [A8] at hv
 split at hv
 ·rename_i e'
  simp only [Option.some.injEq] at hv;subst e' hv;have:=h.slots d _ hs;simp only [FV] at this;simp only [FV,List.map_nil];exact ⟨none,0,[],this,Nat.le_refl _,by simp [FVr],fun h=>absurd rfl h⟩
 exact h.slots s' v hv
theorem Wk.nown {T:Type} (f:T→List AV) (d el c:Nat) (hs:Al s d=some (.lit (.slice none 0 0)):=by exact rfl):Wk ⟨s,b,n,t,e⟩ ⟨(d, .als n 0 ([]:List T).length) :: s,(n,⟨true,el,c,([]:List T).map f,true⟩) :: b,n+1,t,e⟩ :=
 Wk.nil d el c (σ:=⟨s,b,n,t,e⟩) (by simp [St.get,hs])
theorem Ae {ρ:Nat→Option Nat} {σ:St} {k:Nat} {u v v':AV} {l:List (Nat × AV)} (hs:Al σ.slots k=some u:=by exact rfl) (hr:BX ρ u=some v:=by exact rfl) (he:v=v':=by rfl) (h:Cv ρ σ l:=by exact trivial):Cv ρ σ ((k,v') :: l):=by
 subst he;exact ⟨by simp [St.get,hs,hr],h⟩
theorem AN {σ:St} {ρ:Nat→Option Nat} {i:Nat}:BG σ ρ i []=some []:=rfl
theorem Ag {σ:St} {ρ:Nat→Option Nat} {i k:Nat} {ks:List Nat} {slc:Bool} {el sz:Nat} {rows rows':List (List AV)} {l:List (Nat × Obj)} (ho:Al σ.objs k=some ⟨slc,el,sz,rows,true⟩:=by exact rfl) (he:rows=rows':=by rfl) (h:BG σ ρ (i+1) ks=some l:=by exact AN) :
 BG σ ρ i (k :: ks)=some ((i,⟨slc,el,sz,rows',true⟩) :: l):=by
 subst he;simp only [BG,ho,Option.bind_some,Cz,h]
inductive Kept (ρ:Nat→Option Nat) (s:List (Nat × AV)):List Nat→List (Nat × AV)→Prop
 |n:Kept ρ s [] []
 |c {k:Nat} {ks:List Nat} {u v:AV} {l:List (Nat × AV)} (h:Kept ρ s ks l) (hs:Al s k=some u:=by exact rfl) (hr:BX ρ u=some v:=by exact rfl):Kept ρ s (k :: ks) ((k,v) :: l)
theorem Kept.ren {ρ:Nat→Option Nat} {ks:List Nat} {l:List (Nat × AV)} (h:Kept ρ s ks l):Cv ρ ⟨s,b,n,t,e⟩ l:=by
 induction h with
 |n=>exact trivial
 |c _ hs hr ih=>exact ⟨by simp [St.get,hs,hr],ih⟩
theorem C3 {ρ:Nat→Option Nat} {σ:St}:∀ {l m:List (Nat × AV)},Cv ρ σ l→Cv ρ σ m→Cv ρ σ (l ++ m)
 |[],m,_,h=>h
 |p :: l,m,h1,h2=>⟨h1.1,C3 h1.2 h2⟩
theorem AC {c:Code} {ι:Type} (rs:List Nat) (ks:List Nat) {kept:List (Nat × AV)} (U:ι→List (Nat × AV)) (O:ι→List (Nat × Obj)) (μ:ι→Nat) (x0:ι) (hk:Kept (pos rs 0) s ks kept) (hO:BG ⟨s,b,n,t,e⟩ (pos rs 0) 0 rs=some (O x0)) (hU:Cv (pos rs 0) ⟨s,b,n,t,e⟩ (U x0))
 (round:∀ x (R:Exit→St→Prop),(∀ e' σ',FH (fun x=>⟨U x ++ kept,O x,rs.length,t,e⟩) μ x Q e' σ'→R e' σ')→Ev P c ⟨U x ++ kept,O x,rs.length,t,e⟩ R) (hnd:rs.Nodup:=by decide) (hl:∀ i,i < e→rs[i]?= some i:=by decide):Ev P (.loop c) ⟨s,b,n,t,e⟩ Q :=
 Ml (fun x=>⟨U x ++ kept,O x,rs.length,t,e⟩) μ x0 (Wk.ren rs hnd (C3 hU hk.ren) hO rfl rfl rfl hl) fun x=>round x _ fun _ _ h=>h
theorem A4 {ι:Type} {U:ι→List (Nat × AV)} {kept:List (Nat × AV)} {O:ι→List (Nat × Obj)} {μ:ι→Nat} {x:ι} (rs ks:List Nat) {m:Nat} (y:ι) (hμ:μ y < μ x) (hO:BG ⟨s,b,n,t,e⟩ (pos rs 0) 0 rs=some (O y)) (hU:Cv (pos rs 0) ⟨s,b,n,t,e⟩ (U y)) (hk:Kept (pos rs 0) s ks kept) (hm:rs.length=m:=by exact rfl)
 (hnd:rs.Nodup:=by decide) (hl:∀ i,i < e→rs[i]?= some i:=by decide):FH (fun x=>⟨U x ++ kept,O x,m,t,e⟩) μ x Q .normal ⟨s,b,n,t,e⟩ :=
 ⟨y,hμ,Wk.ren rs hnd (C3 hU hk.ren) hO hm.symm rfl rfl hl⟩
end control
end Go.AM
namespace Go.AM
theorem FunR.of {P:Program} {f:FuncId} {fn:Func} {c:Code} {args:List AV} {objs:List (Nat × Obj)} {k:Nat} {Post:AV→List (Nat × Obj)→Prop} {nt:Nat} {rs:List ResultVar} (hf:P.funcs[f]?= some fn) (hb:fn.body=some c) (ht:fn.ntmps=nt)
 (hr:fn.results.toList=rs) (hnm:(fn.name == "runtime.NumGoroutine")=false) (hn:Nat.ble args.length nt=true) (h:Ev P c ⟨argSlots 0 args,objs,k,nt,k⟩ (F8 P rs k Post)):FunR P f args objs k Post :=
 FunR.of_body hf hb hnm (by rw [ht];exact CG hn) (by rw [ht,hr];exact h)
section
variable {P:Program} {s:List (Nat × AV)} {b:List (Nat × Obj)} {n t e k:Nat} {Post:AV→List (Nat × Obj)→Prop} {u v w v' u' w':AV} {r1 r2 r3:Nat}
theorem BZ {σ:St} {ρ:Nat→Option Nat} {i:Nat}:Cu σ ρ k i []=some []:=rfl
theorem B5 {σ:St} {ρ:Nat→Option Nat} {i j:Nat} {ks:List Nat} {slc:Bool} {el sz:Nat} {rows:List (List AV)} {l:List (Nat × Obj)} (ho:Al σ.objs j=some ⟨slc,el,sz,rows,true⟩:=by exact rfl) (h:Cu σ ρ k (i+1) ks=some l) :
 Cu σ ρ k i (j :: ks)=some ((i,⟨slc,el,sz,rows,true⟩) :: l):=by
 simp only [Cu,ho,Cz,h]
theorem Kr {rs:List ResultVar} {ks:List Nat} {σ:St} {vs:List AV} {v':AV} {objs:List (Nat × Obj)} (hr:C2 P σ rs=some vs) (hv:BX (pos ks 0) (packAV vs)=some v') (ho:Cu σ (pos ks 0) k 0 ks=some objs) (hnd:ks.Nodup) (hl:F1 k ks) (h:Post v' objs):F8 P rs k Post .ret σ:=by
 refine ⟨ks,hnd,hl,?_⟩;simp only [RJ,hr,hv,ho];exact h
theorem leads1:F1 1 [0]:=by
 intro i hi
 have:i=0:=by omega
 subst this;rfl
theorem leads2:F1 2 [0,1]:=by
 intro i hi
 rcases i with _ | _ | i
 ·rfl
 ·rfl
 omega
theorem GG (ks:List Nat) {objs:List (Nat × Obj)} (ho:Cu ⟨s,b,n,t,e⟩ (pos ks 0) k 0 ks=some objs) (hl:F1 k ks) (h:Post (.tup []) objs) (hnd:ks.Nodup:=by decide):F8 P [] k Post .ret ⟨s,b,n,t,e⟩ :=
 Kr (vs:=[]) rfl rfl ho hnd hl h
theorem D9 (ks:List Nat) {objs:List (Nat × Obj)} (ho:Cu ⟨s,b,n,t,e⟩ (pos ks 0) k 0 ks=some objs) (hl:F1 k ks) (h:Post v' objs) (h1:Al s r1=some v:=by exact rfl) (hv:BX (pos ks 0) v=some v':=by exact rfl) (hnd:ks.Nodup:=by decide):F8 P [.tmp r1] k Post .ret ⟨s,b,n,t,e⟩ :=
 Kr (vs:=[v]) (by simp [C2,St.get,h1]) hv ho hnd hl h
theorem Oa (ks:List Nat) {objs:List (Nat × Obj)} (ho:Cu ⟨s,b,n,t,e⟩ (pos ks 0) k 0 ks=some objs) (hl:F1 k ks) (h:Post (.tup [u',v']) objs) (h1:Al s r1=some u:=by exact rfl) (h2:Al s r2=some v:=by exact rfl) (hu:BX (pos ks 0) u=some u':=by exact rfl) (hv:BX (pos ks 0) v=some v':=by exact rfl) (hnd:ks.Nodup:=by decide) :
 F8 P [.tmp r1, .tmp r2] k Post .ret ⟨s,b,n,t,e⟩ :=
 Kr (vs:=[u,v]) (by simp [C2,St.get,h1,h2]) (by simp only [packAV,BX,Ef,hu,hv,Option.map_some]) ho hnd hl h
variable {ops:Array Oper} {rest:List Oper} {Q:St→Prop} {d ty:Nat} {pos':String} {aft:Array Edge} {g:Option (Nat × Bool)} {x:Operand}
theorem Cs {as:Array Operand} {ts:Array TypeId} {f:FuncId} {first caps:List AV} {vs:List AV} {objs l new:List (Nat × Obj)} {v v':AV} (rs:List Nat) (n':Nat) (b':List (Nat × Obj))
 (hc:calleeOf (St.ev ⟨s,b,n,t,e⟩ x)=some (f,first,caps):=by exact rfl) (hv:EC ⟨s,b,n,t,e⟩ rs (first ++ (as.toList.map (St.ev ⟨s,b,n,t,e⟩) ++ caps))=some vs:=by exact rfl)
 (hob:BG ⟨s,b,n,t,e⟩ (pos rs 0) 0 rs=some objs) (hF:FunR P f vs objs rs.length (AI v l)) (hl:BX (CD rs n) v=some v':=by exact rfl) (hn:Ea rs n l=some new:=by exact rfl)
 (hn':(∀ r ob,Al new r=some ob→r < n')∧n≤n') (hb:new ++ FB rs b=b':=by exact rfl)
 (hT:ED rs (first ++ (as.toList.map (St.ev ⟨s,b,n,t,e⟩) ++ caps))=true:=by exact rfl) (hnd:rs.Nodup:=by decide) (hg:AL (AU ops) ⟨s,b,n,t,e⟩ g=some true:=by exact rfl) (hd:Nat.blt d t=true:=by exact rfl) (h:SeqL P ops rest ⟨(d,v') :: s,b',n',t,e⟩ Q) :
 SeqL P ops (⟨some d, .call { callee:= .value x,args:=as,argTypes:=ts },ty,pos',aft,g⟩ :: rest) ⟨s,b,n,t,e⟩ Q:=by
 subst hb;refine SeqL.callR rs true hg rfl hc hnd hv hob (fun _=>hT) hF (.inl rfl) (fun d' h'=>by cases h';exact Nat.le_of_ble_eq_true hd) ?_;rintro u l ⟨rfl,rfl⟩;exact ⟨v',new,n',hl,hn,hn'.1,hn'.2,h⟩
theorem HE {o:Obj} {r0 n:Nat} (h:r0 < n):(∀ r ob,Al [(r0,o)] r=some ob→r < n)∧n≤n:=by
 refine ⟨fun r ob hf=>?_,Nat.le_refl _⟩;rw [A8] at hf
 split at hf
 ·omega
 simp [Al] at hf
theorem Wk.frzl {T:Type} {f:T→List AV} (l:List T) (d:Nat) (b':List (Nat × Obj)) {slc:Bool} {r el c m:Nat} {rows:List (List AV)} (hs:Al s d=some (.als r 0 m):=by exact rfl) (ho:Al b r=some ⟨slc,el,c,rows,true⟩:=by exact rfl) (hr:rows=l.map f:=by exact rfl) (hm:l.length=m:=by first | exact rfl | simp) (hk:Nat.ble e r=true:=by exact rfl) (hb:Ct b r=b':=by exact rfl) :
 Wk ⟨s,b,n,t,e⟩ ⟨(d, .sh c (l.map f)) :: s,b',n,t,e⟩:=by
 subst hr;exact Wk.frz d b' hs ho hm hk hb
end
theorem Ac {P:Program} {ops:Array Oper} {s:List (Nat × AV)} {b:List (Nat × Obj)} {n t e:Nat} {K Q:St→Prop} (hK:∀ σ',Q σ'→K σ') (h:Q ⟨s,b,n,t,e⟩):SeqL P ops [] ⟨s,b,n,t,e⟩ K:=SeqL.nil (hK _ h)
section
variable {T:Type} {p s l:List T} {a:T}
theorem BO (h:p ++ s=l):p.length+s.length=l.length:=by rw [← h,List.length_append]
theorem BM (h:p ++ a :: s=l):l[p.length]?= some a:=by rw [← h];simp
theorem Gn (h:p ++ a :: s=l):a ∈ l:=by rw [← h];simp
theorem Bu (h:p ++ a :: s=l):(p ++ [a]) ++ s=l:=by rw [← h];simp
theorem cA:(a :: p) ++ s=a :: (p ++ s):=rfl
theorem nA:([]:List T) ++ s=s:=rfl
theorem lC:(a :: p).length=p.length+1:=rfl
theorem lN:([]:List T).length=0:=rfl
end
theorem B9 {n:Nat}:n < n+1:=Nat.lt_succ_self n
section
variable {P:Program} {s:List (Nat × AV)} {b:List (Nat × Obj)} {n t e r1 r2 d1 d2 ty1 ty2:Nat} {v w u:AV} {ops:Array Oper} {rest:List Oper} {Q:St→Prop} {op1 op2:Op} {pos1 pos2:String} {aft1 aft2:Array Edge} {g1 g2:Option (Nat × Bool)}
theorem Ap (h:v=w) (h1:Al s r1=some v:=by exact rfl) (hc:closedAV v=true:=by exact rfl):Fg P [.tmp r1] (AI w []) .ret ⟨s,b,n,t,e⟩:=IF ⟨h,rfl⟩ h1 hc
theorem Cd (h:AV.tup [u,v]=w) (h1:Al s r1=some u:=by exact rfl) (h2:Al s r2=some v:=by exact rfl) (hc:closedL [u,v]=true:=by exact rfl):Fg P [.tmp r1, .tmp r2] (AI w []) .ret ⟨s,b,n,t,e⟩:=Cx ⟨h,rfl⟩ h1 h2 hc
theorem Au (h:SeqL P ops rest ⟨(d2, .lit undef) :: (d1, .lit undef) :: s,b,n,t,e⟩ Q) (hg:AL (AU ops) ⟨s,b,n,t,e⟩ g1=some false:=by exact rfl) (hd:Nat.blt d1 t=true:=by exact rfl) (hg2:AL (AU ops) ⟨(d1, .lit undef) :: s,b,n,t,e⟩ g2=some false:=by exact rfl) (hd2:Nat.blt d2 t=true:=by exact rfl) :
 SeqL P ops (⟨some d1,op1,ty1,pos1,aft1,g1⟩ :: ⟨some d2,op2,ty2,pos2,aft2,g2⟩ :: rest) ⟨s,b,n,t,e⟩ Q:=Bq (Bq h hg2 hd2) hg hd
end
abbrev iL (n:Int):AV:= .lit (.int .i64 n)
abbrev bL (b:Bool):AV:= .lit (.bool b)
end Go.AM
namespace Go.AM
abbrev C9 (l:List UInt8):Value:= .string ⟨l.toArray⟩
theorem Lu (l:List UInt8):(⟨l.toArray⟩:ByteArray).toList=l:=by rw [ByteArray.toList_eq]
theorem E9 (l:List UInt8):(⟨l.toArray⟩:ByteArray).size=l.length:=by simp [ByteArray.size]
theorem Sq (s:ByteArray):s=⟨s.data.toList.toArray⟩:=by cases s;simp
theorem Sr (l:List UInt8) (i:Nat):(⟨l.toArray⟩:ByteArray)[i]?= l[i]?:=by
 by_cases h:i < l.length
 ·have h':i < (⟨l.toArray⟩:ByteArray).size:=by rw [E9];exact h
  rw [getElem?_pos _ i h',List.getElem?_eq_getElem h];rfl
 have h':¬ i < (⟨l.toArray⟩:ByteArray).size:=by rw [E9];exact h
 rw [getElem?_neg _ i h',List.getElem?_eq_none (by omega)]
theorem Ss {a b:List UInt8}:(⟨a.toArray⟩:ByteArray)=⟨b.toArray⟩↔a=b:=by
 constructor
 ·intro h;have:=congrArg (fun s:ByteArray=>s.data.toList) h
  simpa using this
 intro h;rw [h]
theorem Xj (a b:List UInt8):(a == b)=decide (a=b):=by
 by_cases h:a=b <;> simp [h]
section rules
variable {P:Program} {s:List (Nat × AV)} {b:List (Nat × Obj)} {n t e id:Nat} {d ty:Nat} {x y:Operand} {l m:List UInt8} {k:IntKind} {i:Int}
theorem Mt (op:BinOp) (ty:TypeId) (x y:Operand) {v:Value} (h:Br P (Op.stringOp op ⟨l.toArray⟩ ⟨m.toArray⟩)=some v):De P op ty x y (C9 l) (C9 m)=some v:=by
 have hg:Br P (eqGuard op ty x y (C9 l) (C9 m))=some ():=by rw [eqGuard_at_string];rfl
 simp only [De,Bb,hg,Option.bind_some]
 cases op <;> exact h
theorem DY (hx:AJ s x=some (.lit (C9 l)):=by exact rfl) (hy:AJ s y=some (.lit (C9 m)):=by exact rfl):At P ⟨s,b,n,t,e⟩ id (.binOp .eql ty x y d)=some (.lit (.bool (decide (l=m))),[]):=by
 have:De P .eql ty x y (C9 l) (C9 m)=some (.bool (decide (l=m))):=Mt _ _ _ _ (by simp only [Op.stringOp,Lu,Bj];congr 2;exact Xj _ _);simp only [At,AB hx,AB hy,toVal,this,C0,Option.map_some]
theorem Kc (hx:AJ s x=some (.lit (C9 l)):=by exact rfl) (hy:AJ s y=some (.lit (C9 m)):=by exact rfl):At P ⟨s,b,n,t,e⟩ id (.binOp .neq ty x y d)=some (.lit (.bool (!decide (l=m))),[]):=by
 have:De P .neq ty x y (C9 l) (C9 m)=some (.bool (!decide (l=m))):=Mt _ _ _ _ (by simp only [Op.stringOp,Lu,Bj];congr 3;exact Xj _ _);simp only [At,AB hx,AB hy,toVal,this,C0,Option.map_some]
theorem Xr (hx:AJ s x=some (.lit (C9 l)):=by exact rfl) (hy:AJ s y=some (.lit (C9 m)):=by exact rfl) (h:l.length+m.length≤9223372036854775807:=by first | omega | (simp only [List.length_append,List.length_cons,List.length_nil];omega)):At P ⟨s,b,n,t,e⟩ id (.binOp .add ty x y d)=some (.lit (C9 (l ++ m)),[]):=by
 have:De P .add ty x y (C9 l) (C9 m)=some (C9 (l ++ m)):=Mt _ _ _ _ (by
  simp only [Op.stringOp,E9];have hm:IntKind.i64.max=9223372036854775807:=rfl;rw [if_neg (by rw [hm];omega),Bj]
  rfl)
 simp only [At,AB hx,AB hy,toVal,this,C0,Option.map_some]
theorem CB {st:Nat} (he:A9 P st=none) (hu:P.underlying st=some .string) (hx:AJ s x=some (.lit (C9 l)):=by exact rfl):At P ⟨s,b,n,t,e⟩ id (.call { callee:= .builtin .len,args:= #[x],argTypes:= #[st] })=some (.lit (.int .i64 (l.length:Int)),[]):=by
 have:Ur P #[st] [C9 l]=some (.int .i64 (l.length:Int)):=by
  simp only [Ur,Builtin.len_,Bb];simp only [List.getElem?_toArray,List.getElem?_cons_zero,Bb,BJ hu,Option.bind_some,Bj,goInt,E9]
 simp only [At,Bz,he,List.map_cons,List.map_nil,AB hx,EN,toVals,toVal,Option.bind_some,this,C0,Option.map_some]
theorem FN {st:Nat} {c:UInt8} (hu:P.underlying st=some .string) (hx:AJ s x=some (.lit (C9 l)):=by exact rfl) (hy:AJ s y=some (.lit (.int k i)):=by exact rfl) (hl:0≤i∧l[i.toNat]?= some c:=by assumption):At P ⟨s,b,n,t,e⟩ id (.index st x y)=some (.lit (.int .u8 (c.toNat:Int)),[]):=by
 have:S9 P st (C9 l) (.int k i)=some (.int .u8 (c.toNat:Int)):=by
  have ha:Br P (asIntOf (.int k i))=some (k,i):=rfl;simp only [S9,Instr.index,Bb,ha,Option.bind_some,BJ hu,hl.1,if_true,Sr,hl.2,Bj]
 simp only [At,AB hx,AB hy,toVal,this,C0,Option.map_some]
end rules
end Go.AM
namespace Go.AM
theorem Vd {x:Int} (h:0≤x) (h':x≤18446744073709551615):IntKind.u64.wrap x=x:=by
 have e:IntKind.u64.wrap x=x % 18446744073709551616:=by simp [IntKind.wrap,IntKind.bits,IntKind.signed]
 rw [e];omega
section rules
variable {P:Program} {s:List (Nat × AV)} {b:List (Nat × Obj)} {n t e id:Nat} {d ty:Nat} {x y:Operand} {k k':IntKind} {i j:Int}
theorem LR {sd dd:TypeId} (hd:P.underlying dd=some (.int .u64)) (hs:(P.underlying sd).isSome=true) (hx:AJ s x=some (.lit (.int k i)):=by exact rfl) (h1:0≤i:=by first | omega | assumption) (h2:i≤18446744073709551615:=by first | omega | assumption):At P ⟨s,b,n,t,e⟩ id (.convert sd dd x)=some (.lit (.int .u64 i),[]):=Pc hd hs hx (Vd h1 h2)
theorem TW (P:Program) (t:TypeId) (x y:Operand) (k yk:IntKind) (a:Int) (ha:0≤a):De P .shr t x y (.int k a) (.int yk 1)=some (.int k (a / 2)):=by
 have hk:min (1:Int).toNat k.bits=1:=by cases k <;> rfl
 have:(Op.shift .shr k a yk 1)=pure (.int k (a / 2)):=by
  simp only [Op.shift,hk];rw [if_neg (by decide)]
  congr 2
  rw [Int.fdiv_eq_ediv_of_nonneg _ (by decide)];rfl
 simp [De,Bb,eqGuard_at_int,binOp,this,Bj]
theorem Xs {yk:IntKind} (hx:AJ s x=some (.lit (.int k i)):=by exact rfl) (hy:AJ s y=some (.lit (.int yk 1)):=by exact rfl) (h1:0≤i:=by first | omega | assumption):At P ⟨s,b,n,t,e⟩ id (.binOp .shr ty x y d)=some (.lit (.int k (i / 2)),[]):=by
 simp only [At,AB hx,AB hy,toVal,TW _ _ _ _ _ _ _ h1,C0,Option.map_some]
theorem VD (P:Program) (t:TypeId) (x y:Operand) (a b:Bool) (ht:P.underlying t=some .bool):De P .neq t x y (.bool a) (.bool b)=some (.bool (!(a == b))):=by
 have h:Br P (Op.equalIn (9999+1) t (.bool a) (.bool b))=some (a == b):=Nq (by simp only [MF,ht]);simp only [De,Bb,eqGuard_at_bool,Bj,Option.bind_some,binOp,Op.equal,Op.maxDepth];simp only [Nat.reduceAdd] at h
 simp [Bb,h,Bj]
theorem Xn {p q:Bool} (ht:P.underlying ty=some .bool) (hx:AJ s x=some (.lit (.bool p)):=by exact rfl) (hy:AJ s y=some (.lit (.bool q)):=by exact rfl):At P ⟨s,b,n,t,e⟩ id (.binOp .neq ty x y d)=some (.lit (.bool (!(p == q))),[]):=by
 simp only [At,AB hx,AB hy,toVal,VD _ _ _ _ _ _ ht,C0,Option.map_some]
end rules
abbrev sL (s:List UInt8):AV:= .lit (C9 s)
end Go.AM
