/-
  Part 9 of the proof: the abstract machine, proved sound over the model.
  Conditions: none.
-/
import Derived.Lib.AppendZeros
import Derived.Test.YtaololdbooblkaaGreatDoorX8
set_option linter.unusedVariables false
set_option linter.unusedSimpArgs false
set_option linter.unusedSectionVars false
namespace Go.AM
section
open Go.Proofs
theorem Ov {T:Type} {l:List T} {z0:T} {i j i' j' m' lo k m:Nat} (hi:i'=i) (hj:j'=j) (hm':m'=l.length - j) (hlo:lo=i'+m') (hm:m=i'+m') (hij:i≤j) (hjl:j≤l.length) :
 ((l.take i' ++ (l.drop j').take m' ++ l.drop (i'+m')).take lo ++ List.replicate k z0 ++ (l.take i' ++ (l.drop j').take m' ++ l.drop (i'+m')).drop (lo+k)).take m=l.take i ++ l.drop j:=by
 subst hi hj hlo hm hm';have e0:(l.drop j').take (l.length - j')=l.drop j':=List.take_of_length_le (by simp)
 have e1:(l.take i' ++ l.drop j').length=i'+(l.length - j'):=by simp only [List.length_append,List.length_take,List.length_drop];omega
 rw [e0,List.take_left' e1,List.append_assoc,List.take_left' e1]
section
variable {P:Program} {s:List (Nat × AV)} {b:List (Nat × Obj)} {n t e r:Nat}
theorem UZ {α:Type} (l news:List α) {p q k:Nat} (hk:news.length=q) (h:p+q≤k) (hl:k≤l.length) :
 (l.take p ++ news ++ l.drop (p+q)).take k=(l.take k).take p ++ news ++ (l.take k).drop (p+q):=by
 have e1:(l.take p).length=p:=by rw [List.length_take];omega
 rw [List.append_assoc,List.take_append,e1,List.take_of_length_le (by omega),List.take_append,hk,List.take_of_length_le (l:=news) (by omega),List.take_take,Nat.min_eq_left (by omega),List.drop_take,List.append_assoc,show k - p - q=k - (p+q) by omega]
theorem Rel.rowAt {C:Ctx} {E:Env} {X:Nat→List Value} {σ:St} {a:Act} (hr:Rel C E X σ a) {el c:Nat} {rows:List (List AV)} {A0:Option Addr} {n0 c0:Nat} (ho:Al σ.objs r=some ⟨true,el,c,rows,true⟩) (h0:0 < rows.length) (hH:E.H r= .slice A0 n0 c0) :
 ∃ g cap cur,E.H r= .slice (some ⟨g,0,none⟩) rows.length cap∧E.Z r=c∧E.w.heap[g]?= some (.cells cur el (0,0))∧rows.length≤cap∧cap≤maxLen∧cur.size=cap * c∧cur.toList.take (rows.length * c)=X r∧FVr E.clear c rows (X r) ∧
  ∀ (i:Nat) (rows2:List (List AV)) (news:List Value),i+rows2.length≤rows.length→FVr E.clear c rows2 news →
   ∃ X',Rel C { E with w:=E.w.setRow g (cur.toList.take (i * c) ++ news ++ cur.toList.drop (i * c+news.length)).toArray } X' { σ with objs:=(r,⟨true,el,c,rows.take i ++ rows2 ++ rows.drop (i+rows2.length),true⟩) :: Ct σ.objs r } a:=by
 obtain ⟨hD,hZ,hok,hrow⟩:=hr.objs r _ ho;simp only [ObjOK] at hok
 rcases hok with ⟨hd,h1,_⟩ | ⟨g,cap,cur,hd,hg,hcap,hmax,hcs,htk⟩ | ⟨g,es,clk,hd,_⟩
 ·subst h1;simp at h0
 rotate_left
 ·rw [hH] at hd;cases hd
 have hrow':FVr E.clear c rows (X r):=hrow;refine ⟨g,cap,cur,hd,hZ,hg,hcap,hmax,hcs,htk,hrow',fun i rows2 news hi h2=>?_⟩;have hnl:news.length=rows2.length * c:=h2.length
 have hb:blockOf (E.H r)=some g:=by rw [hd];rfl
 have hne:∀ k,E.S k→k≠g:=fun k hk e'=>(hr.stay k hk).2 r _ ho (by rw [e'];exact hb)
 generalize hw:E.w.setRow g (cur.toList.take (i * c) ++ news ++ cur.toList.drop (i * c+news.length)).toArray=w'
 have hle:E.clear.le (Env.clear { E with w:=w' }):=⟨fun k hk=>⟨hk,by
  show w'.heap[k]?= _
  rw [← hw,setRow_other E.w g k _ (hne k hk)]
  rfl⟩,fun r hr=>hr.elim⟩
 have hlen:(rows.take i ++ rows2 ++ rows.drop (i+rows2.length)).length=rows.length:=by
  simp only [List.length_append,List.length_take,List.length_drop];omega
 have hm1:i * c+rows2.length * c≤rows.length * c:=by rw [← Nat.add_mul];exact Nat.mul_le_mul_right _ hi
 have hm2:rows.length * c≤cur.size:=by rw [hcs];exact Nat.mul_le_mul_right _ hcap
 obtain ⟨g1,_⟩:=hr.update (r:=r) (o:=⟨true,el,c,rows,true⟩) (o':=⟨true,el,c,rows.take i ++ rows2 ++ rows.drop (i+rows2.length),true⟩) (b:=g) (w':=w') (xs':=(X r).take (i * c) ++ news ++ (X r).drop (i * c+rows2.length * c)) ho hb
  (by rw [← hw];rfl) (by rw [← hw];exact ⟨rfl,Nat.le_refl _⟩) (by rw [← hw];rfl) (by rw [← hw];simp [World.setRow]) (fun k hk=>by rw [← hw];exact setRow_other E.w g k _ hk) rfl
  (by
    simp only [ObjOK];refine .inr (.inl ⟨g,cap,_,by rw [hlen];exact hd,by rw [← hw];exact setRow_heap E.w g cur _ el _ hg,by rw [hlen];exact hcap,hmax,?_,?_⟩)
    ·simp only [List.size_toArray,List.length_append,List.length_take,List.length_drop,Array.length_toList,hnl];omega
    rw [hlen,hnl,UZ cur.toList news hnl hm1 (by simpa using hm2),htk])
  (FVr.le c _ hle _ (((hrow'.take i).append h2).append (by rw [← Nat.add_mul];exact hrow'.drop _)))
 exact ⟨_,g1⟩
variable {ops:Array Oper} {rest:List Oper} {Q:St→Prop} {d ty:Nat} {pos:String} {aft:Array Edge} {g:Option (Nat × Bool)} {x y:Operand}
theorem XY {st el c lo0 m:Nat} {zl zh zm:Int} {lo hi mx:Operand} {k1 k2 k3:IntKind} (hel:A9 P st=some el) (hcl:P.cellsOf el=c) (hx:AJ s x=some (.als r lo0 m):=by exact rfl) (hlo:AJ s lo=some (.lit (.int k1 zl)):=by exact rfl) (hhi:AJ s hi=some (.lit (.int k2 zh)):=by exact rfl) (hmx:AJ s mx=some (.lit (.int k3 zm)):=by exact rfl)
 (h0:0≤zl:=by first | omega | assumption) (h1:zl≤zh:=by first | omega | assumption) (h2:zh≤zm:=by first | omega | assumption) (h3:zm≤m:=by first | omega | assumption) (hc:Nat.beq c 0=false:=by exact rfl) (hg:AL (AU ops) ⟨s,b,n,t,e⟩ g=some true:=by exact rfl) (hd:Nat.blt d t=true:=by exact rfl)
 (h:SeqL P ops rest ⟨(d, .top) :: s,b,n,t,e⟩ Q) :
 SeqL P ops (⟨some d, .slice st x (some lo) (some hi) (some mx),ty,pos,aft,g⟩ :: rest) ⟨s,b,n,t,e⟩ Q:=by
 refine SeqL.of_run hg fun C E X a hr=>?_;have hund:=BL hel;have hxv:=hr.ev x;rw [AB hx] at hxv;simp only [FV] at hxv;obtain ⟨_,A0,n0,c0,A,cc,_,hxe,hnc,_⟩:=hxv;have e1:=CU hr hlo;have e2:=CU hr hhi;have e3:=CU hr hmx
 cases hi':P.info? el with
 |none=>simp [Program.cellsOf,hi'] at hcl;subst hcl;cases hc
 |some i =>
 have hput:=fun y=>hr.put (some d) (v:= .top) (y:=y) (fun d' e'=>by cases e';exact Nat.le_of_ble_eq_true hd) (by simp [FV]);refine ⟨.slice (if zm.toNat=zl.toNat then A else A.map (·.add (zl.toNat * i.size))) (zh.toNat - zl.toNat) (zm.toNat - zl.toNat),E,X,_,?_,hput _,h⟩
 unfold execOp
 simp only [Sem.run_bind,Instr.sliceAt,run_underlying hund,Result.andThen_ok,Option.map_some,hxe,e1,e2,e3,Instr.slice,Instr.sliceBounds,Sem.run_pure,Cl hi',DZ (k:=k3) (y:=cc) (show 0≤zm by omega) (by omega),DZ (k:=k2) (show 0≤zh by omega) (show zh.toNat≤zm.toNat by omega),DZ (k:=k1) h0 (show zl.toNat≤zh.toNat by omega)]
theorem XZ {T:Type} {f:T→List AV} {l:List T} {st el c m:Nat} {zl zh:Int} {lo hi:Operand} {k1 k2:IntKind} (hel:A9 P st=some el) (hcl:P.cellsOf el=c) (hx:AJ s x=some (.als r 0 m):=by exact rfl) (hlo:AJ s lo=some (.lit (.int k1 zl)):=by exact rfl) (hhi:AJ s hi=some (.lit (.int k2 zh)):=by exact rfl)
 (ho:Al b r=some ⟨true,el,c,l.map f,true⟩:=by exact rfl) (h0:0≤zl:=by first | omega | assumption) (h1:zl≤zh:=by first | omega | assumption) (h2:zh≤l.length:=by first | omega | (simp only [List.length_append,List.length_take,List.length_drop,List.length_replicate];omega)) (hl0:0 < l.length:=by first | omega | (simp only [List.length_append,List.length_take,List.length_drop,List.length_replicate];omega)) (hc:Nat.beq c 0=false:=by exact rfl) (hg:AL (AU ops) ⟨s,b,n,t,e⟩ g=some true:=by exact rfl) (hd:Nat.blt d t=true:=by exact rfl)
 (h:SeqL P ops rest ⟨(d, .als r zl.toNat (zh.toNat - zl.toNat)) :: s,b,n,t,e⟩ Q) :
 SeqL P ops (⟨some d, .slice st x (some lo) (some hi) none,ty,pos,aft,g⟩ :: rest) ⟨s,b,n,t,e⟩ Q:=by
 refine SeqL.of_run hg fun C E X a hr=>?_;have hund:=BL hel;have hxv:=hr.ev x;rw [AB hx] at hxv;simp only [FV] at hxv;obtain ⟨hD,A0,n0,c0,A,cc,hH,hxe,hnc,hA,_⟩:=hxv;obtain ⟨rfl,rfl⟩:=hA rfl;have e1:=CU hr hlo;have e2:=CU hr hhi
 cases hi':P.info? el with
 |none=>simp [Program.cellsOf,hi'] at hcl;subst hcl;cases hc
 |some i =>
 have hsz:=B8 hi';rw [hcl] at hsz;subst hsz;obtain ⟨gb,cap,cur,hd1,hZ,hgb,hcap,_⟩:=hr.rowAt ho (by simpa using hl0) hH;rw [hH] at hd1;simp only [Value.slice.injEq,List.length_map] at hd1;obtain ⟨rfl,rfl,rfl⟩:=hd1;simp only [List.length_map] at hcap
 have hput:=hr.put (some d) (v:= .als r zl.toNat (zh.toNat - zl.toNat)) (y:= .slice (if cc=zl.toNat then some ⟨gb,0,none⟩ else (some (⟨gb,0,none⟩:Addr)).map (·.add (zl.toNat * i.size))) (zh.toNat - zl.toNat) (cc - zl.toNat)) (fun d' e'=>by cases e';exact Nat.le_of_ble_eq_true hd) (by
  simp only [FV];refine ⟨hD,_,_,_,_,_,hH,rfl,by omega,?_,?_⟩
  ·intro hz0;rw [hz0];refine ⟨?_,by omega⟩
   split
   ·rfl
   simp [Addr.add_zero']
  intro hp;refine ⟨_,rfl,rfl,?_⟩
  rw [if_neg (by omega),Option.map_some,hZ])
 refine ⟨_,E,X,_,?_,hput,h⟩
 unfold execOp
 simp only [Sem.run_bind,Instr.sliceAt,run_underlying hund,Result.andThen_ok,Option.map_some,Option.map_none,hxe,e1,e2,Instr.slice,Instr.sliceBounds,Sem.run_pure,Cl hi',DZ (k:=k2) (y:=cc) (show 0≤zh by omega) (by omega),DZ (k:=k1) h0 (show zl.toNat≤zh.toNat by omega)]
theorem XQ {T:Type} {f:T→List AV} {l:List T} {st el c i j m:Nat} {zs:List AV} (b':List (Nat × Obj)) (hel:A9 P st=some el) (hze:AK P el=some zs) (hcl:P.cellsOf el=c)
 (hx:AJ s x=some (.als r 0 i):=by exact rfl) (hy:AJ s y=some (.als r j m):=by exact rfl) (ho:Al b r=some ⟨true,el,c,l.map f,true⟩:=by exact rfl) (hij:i≤j:=by omega) (hjm:j+m≤l.length:=by omega) (h0:0 < l.length:=by omega)
 (hb':Ct b r=b':=by exact rfl) (hg:AL (AU ops) ⟨s,b,n,t,e⟩ g=some true:=by exact rfl) (hd:Nat.blt d t=true:=by exact rfl)
 (h:SeqL P ops rest ⟨(d, .als r 0 (i+m)) :: s,(r,⟨true,el,c,(l.take i ++ (l.drop j).take m ++ l.drop (i+m)).map f,true⟩) :: b',n,t,e⟩ Q) :
 SeqL P ops (⟨some d, .call { callee:= .builtin .append,args:= #[x,y],argTypes:= #[st,st] },ty,pos,aft,g⟩ :: rest) ⟨s,b,n,t,e⟩ Q:=by
 subst hb';refine SeqL.of_run hg fun C E X a hr=>?_;obtain ⟨i0,z,hi,hzz,rfl,_,_⟩:=Ca hze;have hsz:=B8 hi;rw [hcl] at hsz;subst hsz;have hund:=BL hel;have hxv:=hr.ev x;rw [AB hx] at hxv;have hyv:=hr.ev y;rw [AB hy] at hyv;simp only [FV] at hxv hyv;obtain ⟨hD,A0,n0,c0,A,cc,hH,hxe,hnc,hA,_⟩:=hxv;obtain ⟨rfl,rfl⟩:=hA rfl;obtain ⟨_,B0,m0,d0,B,cc',hH',hye,hnc',_,hB⟩:=hyv;rw [hH] at hH';simp only [Value.slice.injEq] at hH';obtain ⟨rfl,rfl,rfl⟩:=hH';obtain ⟨gb,cap,cur,hd1,hZ,hgb,hcap,hmax,hcs,htk,hrow,hwr⟩:=hr.rowAt ho (by simpa using h0) hH;rw [hH] at hd1;simp only [Value.slice.injEq,List.length_map] at hd1;obtain ⟨rfl,rfl,rfl⟩:=hd1;simp only [List.length_map] at hcap htk;have hrows2:FVr E.clear i0.size (((l.map f).drop j).take m) (((X r).drop (j * i0.size)).take (m * i0.size)):=(hrow.drop j).take m
 have hl2:(((l.map f).drop j).take m).length=m:=by simp only [List.length_take,List.length_drop,List.length_map];omega
 obtain ⟨X',hrel⟩:=hwr i _ _ (by rw [hl2,List.length_map];omega) hrows2;have hnl:=hrows2.length;rw [hl2] at hnl
 have hrun:(Builtin.append_ #[st,st] ty #[.slice (some ⟨gb,0,none⟩) i cc, .slice B m cc']).run P E.w= .ok (.slice (some ⟨gb,0,none⟩) (i+m) cc) (E.w.setRow gb (cur.toList.take (i * i0.size) ++ ((X r).drop (j * i0.size)).take (m * i0.size) ++ cur.toList.drop (i * i0.size+(((X r).drop (j * i0.size)).take (m * i0.size)).length)).toArray):=by
  by_cases hm:m=0
  ·subst hm;rw [Iy st st ty el el i0 hund hund hi _ B i cc cc' hnc];rw [Nat.zero_mul,List.take_zero,List.append_nil,List.length_nil,Nat.add_zero,Nat.add_zero,List.take_append_drop,Array.toArray_toList,setRow_self E.w gb cur el (0,0) hgb]
  obtain ⟨a0,e1,hsp,rfl⟩:=hB (by omega);simp only [Option.some.injEq] at e1;subst e1;have hh:holds E.w ⟨gb,0,none⟩ (X r):=((hr.objs r _ ho).2.2.1.holds (a0:=⟨gb,0,none⟩) (by rw [hH];rfl)).2;refine run_append_room (P:=P) E.w st ty el i0 hund hi gb i cc cur hgb _ m cc' _ hnl ?_ hrows2.one (by omega) ?_
  ·rw [hZ];exact (hh.drop hsp _).take _
  rw [hnl,hcs, ← Nat.add_mul];exact Nat.mul_le_mul_right _ (by omega)
 have hput:=hrel.put (some d) (v:= .als r 0 (i+m)) (y:= .slice (some ⟨gb,0,none⟩) (i+m) cc) (fun d' e'=>by cases e';exact Nat.le_of_ble_eq_true hd) (by
  simp only [FV]
  exact ⟨hD,_,_,_,_,_,hH,rfl,by omega,fun _=>⟨rfl,rfl⟩,fun _=>⟨_,rfl,rfl,by simp [Addr.add_zero']⟩⟩)
 refine ⟨_,_,X',_,?_,hput,?_⟩
 ·unfold execOp
  simp only [resolve,invoke,builtin,Sem.run_bind,Sem.run_pure,Result.andThen_ok,List.map_toArray,List.map_cons,List.map_nil,hxe,hye,hrun]
 rw [hl2];simp only [St.put];rw [← List.map_drop, ← List.map_take, ← List.map_take, ← List.map_drop, ← List.map_append, ← List.map_append];exact h
theorem Sg {E:Env} {c:Nat} {cs:List Value} (hc:cs.length=c) (h:FVc E (cs.map .lit) cs) (k:Nat):FVr E c (List.replicate k (cs.map .lit)) (List.replicate k cs).flatten:=Mo (by simp [hc]) h k
theorem XS {T:Type} {f:T→List AV} {l:List T} {st el c lo k:Nat} {zs:List AV} (z0:T) (b':List (Nat × Obj)) (hel:A9 P st=some el) (hze:AK P el=some zs) (hcl:P.cellsOf el=c)
 (hx:AJ s x=some (.als r lo k):=by exact rfl) (ho:Al b r=some ⟨true,el,c,l.map f,true⟩:=by exact rfl) (hlk:lo+k≤l.length:=by first | omega | (simp only [List.length_append,List.length_take,List.length_drop,List.length_replicate];omega)) (hk:0 < k:=by omega) (hf:f z0=zs:=by exact rfl) (hz:Nat.beq zs.length c=true:=by exact rfl)
 (hb':Ct b r=b':=by exact rfl) (hg:AL (AU ops) ⟨s,b,n,t,e⟩ g=some true:=by exact rfl)
 (h:SeqL P ops rest ⟨s,(r,⟨true,el,c,(l.take lo ++ List.replicate k z0 ++ l.drop (lo+k)).map f,true⟩) :: b',n,t,e⟩ Q) :
 SeqL P ops (⟨none, .call { callee:= .builtin .clear,args:= #[x],argTypes:= #[st] },ty,pos,aft,g⟩ :: rest) ⟨s,b,n,t,e⟩ Q:=by
 subst hb';refine SeqL.of_run hg fun C E X a hr=>?_;obtain ⟨i0,z,hi,hzz,hzs,hzr,hzf⟩:=Ca hze;have hsz:=B8 hi;rw [hcl] at hsz;subst hsz;rw [Nat.beq_eq,hzs] at hz;simp only [List.length_map,Array.length_toList] at hz;have hund:=BL hel;have hxv:=hr.ev x;rw [AB hx] at hxv;simp only [FV] at hxv;obtain ⟨hD,A0,n0,c0,A,cc,hH,hxe,hnc,_,hA⟩:=hxv;obtain ⟨a0,rfl,hsp,rfl⟩:=hA hk;obtain ⟨gb,cap,cur,hd1,hZ,hgb,hcap,hmax,hcs,htk,hrow,hwr⟩:=hr.rowAt ho (by simp;omega) hH;rw [hH] at hd1;simp only [Value.slice.injEq,List.length_map,Option.some.injEq] at hd1;obtain ⟨rfl,rfl,rfl⟩:=hd1;simp only [List.length_map] at hcap htk
 have hrows2:FVr E.clear i0.size (List.replicate k zs) (List.replicate k z.cells.toList).flatten:=by
  rw [hzs];exact Sg (by simpa using hz) (by rw [← hzs];exact hzf _) k
 have hl2:(List.replicate k zs).length=k:=List.length_replicate;obtain ⟨X',hrel⟩:=hwr lo _ _ (by rw [hl2,List.length_map];omega) hrows2;have hnl:=hrows2.length;rw [hl2] at hnl;have hzc:(Builtin.zeroCells z.cells k).toList=(List.replicate k z.cells.toList).flatten:=Nr z.cells k
 have hadd:(⟨gb,0,none⟩:Addr).add (lo * i0.size)=⟨gb,lo * i0.size,none⟩:=by unfold Addr.add;split <;> simp_all
 have hst:=run_storeCells_at P gb (lo * i0.size) el (List.replicate k z.cells.toList).flatten 0 cur E.w hgb (by rw [hnl,hcs,Nat.add_zero, ← Nat.add_mul];exact Nat.mul_le_mul_right _ (by omega)) hrows2.one;rw [Nat.add_zero] at hst
 have hrun:(Builtin.clear_ #[st] ty #[.slice (some ((⟨gb,0,none⟩:Addr).add (lo * E.Z r))) k cc]).run P E.w= .ok (.tuple #[]) (E.w.setRow gb (cur.toList.take (lo * i0.size) ++ (List.replicate k z.cells.toList).flatten ++ cur.toList.drop (lo * i0.size+(List.replicate k z.cells.toList).flatten.length)).toArray):=by
  obtain ⟨k',rfl⟩:∃ k',k=k'+1:=⟨k - 1,by omega⟩;rw [hZ,hadd]
  simp [Builtin.clear_,run_underlying hund,hzr,hzc,hst]
 refine ⟨.tuple #[],_,X',_,?_,hrel,?_⟩
 ·unfold execOp
  simp only [resolve,invoke,builtin,Sem.run_bind,Sem.run_pure,Result.andThen_ok,List.map_toArray,List.map_cons,List.map_nil,hxe,hrun]
 rw [hl2];simp only [St.put];rw [← hf, ← List.map_replicate, ← List.map_take, ← List.map_drop, ← List.map_append, ← List.map_append];exact h
theorem Wk.cut {T:Type} {f:T→List AV} {l:List T} {el c m:Nat} {zs:List AV} (d:Nat) (b':List (Nat × Obj)) (hze:AK P el=some zs) (hcl:P.cellsOf el=c) (hs:Al s d=some (.als r 0 m):=by exact rfl) (ho:Al b r=some ⟨true,el,c,l.map f,true⟩:=by exact rfl) (hm:m≤l.length:=by first | omega | (simp only [List.length_append,List.length_take,List.length_drop,List.length_replicate];omega)) (hb':Ct b r=b':=by exact rfl) :
 Wk ⟨s,b,n,t,e⟩ ⟨(d, .als n 0 (l.take m).length) :: s,(n,⟨true,el,c,(l.take m).map f,true⟩) :: b',n+1,t,e⟩:=by
 subst hb';intro C E X a hr;obtain ⟨i0,z,hi,hzz,_,_,_⟩:=Ca hze;have hsz:=B8 hi;rw [hcl] at hsz;subst hsz;obtain ⟨hD,hZ,hok,hrow⟩:=hr.objs r _ ho;have hxv:=hr.slots d _ hs;simp only [FV] at hxv;obtain ⟨_,A0,n0,c0,A,cc,hH,hxe,hnc,hA,_⟩:=hxv;obtain ⟨rfl,rfl⟩:=hA rfl
 have hrow':FVr (E.by true) i0.size ((l.take m).map f) ((X r).take (m * i0.size)):=by rw [List.map_take];exact FVr.take m hrow
 have hlt:(l.take m).length=m:=by rw [List.length_take];omega
 have hok':ObjOK E.w (.slice A m cc) ((X r).take (m * i0.size)) ⟨true,el,i0.size,(l.take m).map f,true⟩:=by
  simp only [ObjOK] at hok ⊢
  rcases hok with ⟨hd,h1,h2⟩ | ⟨g,cap,cur,hd,hg,hcap,hmax,hcs,htk⟩ | ⟨g,es,clk,hd,_⟩
  ·rw [hH] at hd;simp only [Value.slice.injEq] at hd;obtain ⟨rfl,rfl,rfl⟩:=hd
   have hl0:l=[]:=by simpa using h1
   subst hl0
   have hm0:m=0:=by simpa using hm
   subst hm0;exact .inl ⟨rfl,rfl,by simp⟩
  ·rw [hH] at hd;simp only [Value.slice.injEq,List.length_map] at hd;obtain ⟨rfl,rfl,rfl⟩:=hd;simp only [List.length_map] at hcap htk;refine .inr (.inl ⟨g,cc,cur,by rw [List.length_map,hlt],hg,by rw [List.length_map,hlt];exact hnc,hmax,hcs,?_⟩);rw [List.length_map,hlt, ← htk,List.take_take,Nat.min_eq_left (Nat.mul_le_mul_right _ hm)]
  rw [hH] at hd;cases hd
 have hblk:∀ k,blockOf (.slice A m cc)=some k→∃ r' ob,some r=some r'∧Al b r'=some ob∧blockOf (E.H r')=some k:=fun k hk=>⟨r,_,rfl,ho,by rw [hH];exact hk⟩;obtain ⟨E',X',e1,hrel,hval⟩:=hr.appended (hr0:=some r) (i:=i0) (o1:=⟨true,el,i0.size,(l.take m).map f,true⟩) (rows2:=[]) (news:=[]) (c1:=true) (c2:=true) (w':=E.w) hrow' hblk (by simp [FVr]) (by simpa using hok') rfl (Tp.refl _) rfl (Nat.le_refl _) (fun _ _ _=>rfl) (fun k hk=>⟨.inl hk,hok'.lt hk⟩) ⟨_,_,_,rfl⟩;refine ⟨E',X',e1,?_⟩;have hb1:((l.take m).map f ++ [])=(l.take m).map f:=List.append_nil _;simp only [Bool.and_self,hb1,List.length_nil,Nat.add_zero,List.length_map] at hrel hval;refine ⟨?_,hrel.size,hrel.defers,hrel.objs,hrel.apart,hrel.stay,hrel.fresh,hrel.kept,hrel.mine,hrel.env,hrel.envD,hrel.base,hrel.grow,hrel.envk,hrel.glob⟩;intro s' v hv;rw [A8] at hv
 split at hv
 ·rename_i e2
  simp only [Option.some.injEq] at hv;subst e2 hv;rw [hxe];exact hval
 exact hrel.slots s' v hv
end
end
section
open Go.MapKept
section plain
variable {K:Type} [DecidableEq K]
end plain
section Al
variable {K:Type} [DecidableEq K] {d:TypeDesc} {kv:K→Value}
end Al
section rules
variable {P:Program} {ops:Array Oper} {rest:List Oper} {s:List (Nat × AV)} {b:List (Nat × Obj)} {n t e id:Nat} {Q:St→Prop} {dd ty:Nat} {pos:String} {aft:Array Edge} {g:Option (Nat × Bool)} {x y z:Operand}
variable {K:Type} [DecidableEq K] {d:TypeDesc} {kv:K→Value} {m:List K} {k:K} {mt r el:Nat} {cl:Bool}
theorem Wk.frzv {slc:Bool} {r el sz:Nat} {row:List AV} (d:Nat) (b':List (Nat × Obj)) (hs:Al s d=some (.adr r 0 0):=by exact rfl) (ho:Al b r=some ⟨slc,el,sz,[row],true⟩:=by exact rfl) (hk:Nat.ble e r=true:=by exact rfl) (hb:Ct b r=b':=by exact rfl) :
 Wk ⟨s,b,n,t,e⟩ ⟨(d, .sadr row 0) :: s,b',n,t,e⟩:=by
 subst hb;intro C E X a hr;obtain ⟨g1,g2,g3,g4⟩:=hr.objs r _ ho;have hk':e≤r:=Nat.le_of_ble_eq_true hk
 let E':Env:={ E with S:=fun b=>E.S b∨blockOf (E.H r)=some b }
 have hle':E.le E':=⟨fun b hb=>⟨.inl hb,rfl⟩,fun r hD=>⟨hD,rfl,rfl⟩⟩
 have hd:∀ r' o',Al (Ct b r) r'=some o'→Al b r'=some o'∧r'≠r:=by
  intro r' o' hf;rw [Cj] at hf
  split at hf
  ·cases hf
  rename_i e;exact ⟨hf,fun e'=>e e'.symm⟩
 refine ⟨E',X,rfl,⟨?_,hr.size,hr.defers,?_,?_,?_,hr.fresh,hr.kept,?_,?_,hr.envD,?_,?_,hr.envk,hr.glob.le hle'⟩⟩
 ·intro s' v hv;rw [A8] at hv
  split at hv
  ·rename_i e
   simp only [Option.some.injEq] at hv;subst e hv;have hx:=hr.slots d _ hs;simp only [FV] at hx;obtain ⟨_,a0,hH,hsp,hxe⟩:=hx;obtain ⟨_,hh⟩:=g3.holds (a0:=a0) hH;have g5:FVr E.clear sz [row] (X r):=g4;simp only [FVr] at g5;obtain ⟨ys,zs,e1,_,e2,rfl⟩:=g5;rw [List.append_nil] at e1;simp only [FV];refine ⟨a0,X r,by rw [hxe,Nat.zero_mul],hsp, .inr (DA hH),by rw [e1];exact FVc.le _ hle'.clear _ e2,hh⟩
  exact FV.le _ hle' _ (hr.slots s' v hv)
 ·intro r' o' hf;obtain ⟨hf,hne⟩:=hd r' o' hf;obtain ⟨k1,k2,k3,k4⟩:=hr.objs r' o' hf;exact ⟨k1,k2,k3,FVr.le _ _ (hle'.by _) _ k4⟩
 ·intro r1 r2 o1 o2 b h1 h2 hb1 hb2;exact hr.apart r1 r2 o1 o2 b (hd r1 o1 h1).1 (hd r2 o2 h2).1 hb1 hb2
 ·rintro b (hb | hb)
  ·exact ⟨(hr.stay b hb).1,fun r' o' hf=>(hr.stay b hb).2 r' o' (hd r' o' hf).1⟩
  refine ⟨g3.lt hb,fun r' o' hf hbk=>?_⟩;obtain ⟨hf,hne⟩:=hd r' o' hf;exact hne (hr.apart r' r o' _ b hf ho hbk hb)
 ·intro r' o' b hf hbk;exact hr.mine r' o' b (hd r' o' hf).1 hbk
 ·exact hr.env
 ·intro b hb;exact .inl (hr.base b hb)
 rintro b (hb | hb)
 ·exact hr.grow b hb
 rcases hr.mine r _ b ho hb with h | h
 ·exact .inr (.inr h)
 exact .inr (.inl h)
end rules
end
end Go.AM
