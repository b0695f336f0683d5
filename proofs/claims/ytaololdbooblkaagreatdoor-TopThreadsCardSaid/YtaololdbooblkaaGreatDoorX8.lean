/-
  Part 8 of the proof: the abstract machine, proved sound over the model.
  Conditions: none.
-/
import Derived.Lib.AppendStr
import Derived.Test.YtaololdbooblkaaGreatDoorX7
set_option linter.unusedVariables false
set_option linter.unusedSimpArgs false
set_option linter.unusedSectionVars false
namespace Go.AM
theorem Bd {σ:St} {ρ:Nat→Option Nat} {i k:Nat} {ks:List Nat} {slc:Bool} {el sz:Nat} {rows rows1 rows':List (List AV)} {l:List (Nat × Obj)} (ho:Al σ.objs k=some ⟨slc,el,sz,rows,false⟩:=by exact rfl) (hr:G3 ρ rows=some rows1:=by exact rfl) (he:rows1=rows':=by exact rfl) (h:BG σ ρ (i+1) ks=some l:=by exact AN) :
 BG σ ρ i (k :: ks)=some ((i,⟨slc,el,sz,rows',false⟩) :: l):=by
 subst he;simp only [BG,ho,Option.bind_some,Cz,hr,Option.map_some,h]
theorem B7 {l:List (Nat × Obj)} {n n':Nat} (h:(l.all fun p=>Nat.blt p.1 n')=true) (h2:Nat.ble n n'=true):(∀ r ob,Al l r=some ob→r < n')∧n≤n':=by
 refine ⟨?_,Nat.le_of_ble_eq_true h2⟩
 induction l with
 |nil=>intro r ob hf;simp [Al] at hf
 |cons p l ih =>
  simp only [List.all_cons,Bool.and_eq_true] at h;intro r ob hf;obtain ⟨k,v⟩:=p;rw [A8] at hf
  split at hf
  ·rename_i e
   subst e;exact Nat.le_of_ble_eq_true h.1
  exact ih h.2 r ob hf
theorem GM {k:Nat} {ks:List Nat} (h:((List.range k).all fun i=>match ks[i]? with | some j=>Nat.beq j i | none=>false)=true):F1 k ks:=by
 intro i hi;have h1:=List.all_eq_true.1 h i (List.mem_range.2 hi)
 revert h1
 cases ks[i]? with
 |none=>intro h1;simp at h1
 |some j=>intro h1;rw [Nat.beq_eq] at h1;rw [h1]
section
variable {P:Program} {s:List (Nat × AV)} {b:List (Nat × Obj)} {n t e k:Nat}
theorem CO {σ:St} {ρ:Nat→Option Nat} {i j:Nat} {ks:List Nat} {slc:Bool} {el sz:Nat} {rows rows1:List (List AV)} {l:List (Nat × Obj)} (ho:Al σ.objs j=some ⟨slc,el,sz,rows,false⟩:=by exact rfl) (hr:G3 ρ rows=some rows1:=by exact rfl) (h:Cu σ ρ k (i+1) ks=some l) :
 Cu σ ρ k i (j :: ks)=some ((i,⟨slc,el,sz,rows1,false⟩) :: l):=by
 simp only [Cu,ho,Cz,hr,Option.map_some,h]
theorem IP {σ:St} {ρ:Nat→Option Nat} {i j:Nat} {ks:List Nat} {l:List (Nat × Obj)} (ho:Al σ.objs j=none:=by exact rfl) (hi:Nat.blt i k=true:=by exact rfl) (h:Cu σ ρ k (i+1) ks=some l) :
 Cu σ ρ k i (j :: ks)=some l:=by
 simp only [Cu,ho,hi,cond_true,h]
theorem FVc.setCell {E:Env}:∀ {row:List AV} {xs:List Value} {j:Nat} {u v:AV},FVc E row xs→row[j]?= some u→(∀ x,FV E u x→FV E v x)→FVc E (row.set j v) xs
 |[],_,_,_,_,_,h,_=>by simp at h
 |c :: cs,xs,0,u,v,h,hj,hv=>by
  simp only [List.getElem?_cons_zero,Option.some.injEq] at hj;subst hj;simp only [FVc] at h;obtain ⟨y,ys,rfl,h0,h1,h2⟩:=h;simp only [List.set_cons_zero,FVc];exact ⟨y,ys,rfl,h0,hv y h1,h2⟩
 |c :: cs,xs,j+1,u,v,h,hj,hv=>by
  simp only [List.getElem?_cons_succ] at hj;simp only [FVc] at h;obtain ⟨y,ys,rfl,h0,h1,h2⟩:=h;simp only [List.set_cons_succ,FVc];exact ⟨y,ys,rfl,h0,h1,FVc.setCell h2 hj hv⟩
theorem Wk.nilv {T:Type} (f:T→List AV) (r j el c:Nat) {row row':List AV} {cl:Bool} {el0 sz0:Nat} (b':List (Nat × Obj)) (ho:Al b r=some ⟨false,el0,sz0,[row],cl⟩:=by exact rfl) (hj:row[j]?= some (.lit (.slice none 0 0)):=by exact rfl) (hset:row.set j (.als n 0 0)=row':=by exact rfl) (hb:Ct b r=b':=by exact rfl) :
 Wk ⟨s,b,n,t,e⟩ ⟨s,(r,⟨false,el0,sz0,[row'],false⟩) :: (n,⟨true,el,c,([]:List T).map f,true⟩) :: b',n+1,t,e⟩:=by
 subst hset hb;intro C E X a hr;have hN:¬ E.D n:=fun hD=>Nat.lt_irrefl _ (hr.fresh n hD);have hne:∀ r,E.D r→r≠n:=fun r hD e=>hN (e ▸ hD)
 let E':Env:={ w:=E.w,H:=BQ E.H n (.slice none 0 0),Z:=BQ E.Z n c,D:=fun r=>E.D r∨r=n,S:=E.S }
 have hle:E.le E':=⟨fun b hb=>⟨hb,rfl⟩,fun r hD=>⟨.inl hD,by simp [E',BQ,hne r hD],by simp [E',BQ,hne r hD]⟩⟩;obtain ⟨k1,k2,k3,k4⟩:=hr.objs r _ ho;have hrn:r≠n:=hne r k1
 have hcase:∀ r1 ob,Al ((r,(⟨false,el0,sz0,[row.set j (.als n 0 0)],false⟩:Obj)) :: (n,(⟨true,el,c,([]:List T).map f,true⟩:Obj)) :: Ct b r) r1=some ob →
  (r1=r∧ob=⟨false,el0,sz0,[row.set j (.als n 0 0)],false⟩)∨(r1=n∧ob=⟨true,el,c,[],true⟩)∨(Al b r1=some ob∧r1≠n∧r1≠r):=by
  intro r1 ob hf;rw [A8] at hf
  split at hf
  ·rename_i e
   simp only [Option.some.injEq] at hf;exact .inl ⟨e.symm,hf.symm⟩
  ·rename_i e
   rw [A8] at hf
   split at hf
   ·rename_i e'
    simp only [Option.some.injEq] at hf;exact .inr (.inl ⟨e'.symm,hf.symm⟩)
   ·rename_i e'
    rw [Cj,if_neg e] at hf;exact .inr (.inr ⟨hf,fun h=>e' h.symm,fun h=>e h.symm⟩)
 have hH:∀ r,r≠n→E'.H r=E.H r:=fun r h=>by simp [E',BQ,h]
 have hHN:E'.H n= .slice none 0 0:=by simp [E',BQ]
 have hblk:∀ r1 ob k,Al ((r,(⟨false,el0,sz0,[row.set j (.als n 0 0)],false⟩:Obj)) :: (n,(⟨true,el,c,([]:List T).map f,true⟩:Obj)) :: Ct b r) r1=some ob→blockOf (E'.H r1)=some k→(∃ ob',Al b r1=some ob')∧blockOf (E.H r1)=some k:=by
  intro r1 ob k hf hb
  rcases hcase r1 ob hf with ⟨rfl,_⟩ | ⟨rfl,_⟩ | ⟨hf,hn1,_⟩
  ·rw [hH _ hrn] at hb;exact ⟨⟨_,ho⟩,hb⟩
  ·rw [hHN] at hb;simp [blockOf] at hb
  rw [hH _ hn1] at hb;exact ⟨⟨_,hf⟩,hb⟩
 have hnil:∀ x,FV E' (.lit (.slice none 0 0)) x→FV E' (.als n 0 0) x:=by
  intro x hx;simp only [FV] at hx ⊢;subst hx;refine ⟨.inr rfl,?_⟩;rw [hHN];exact ⟨none,0,0,none,0,rfl,rfl,Nat.le_refl _,fun _=>⟨rfl,rfl⟩,fun h=>absurd h (by omega)⟩
 refine ⟨E',BQ X n [],rfl,⟨fun s' v hv=>FV.le _ hle _ (hr.slots s' v hv),hr.size,hr.defers,?_,?_,?_,?_,hr.kept,?_,?_,?_,hr.base,hr.grow,hr.envk,hr.glob⟩⟩
 ·intro r1 ob hf
  rcases hcase r1 ob hf with ⟨rfl,rfl⟩ | ⟨rfl,rfl⟩ | ⟨hf,hn1,hr1⟩
  ·refine ⟨.inl k1,by simp [E',BQ,hrn,k2],?_,?_⟩
   ·rw [hH _ hrn];simp only [BQ,hrn,if_false]
    unfold ObjOK at k3 ⊢
    exact k3
   simp only [BQ,hrn,if_false];have h4:=FVr.le _ _ (E.by_le cl) _ k4;simp only [FVr] at h4 ⊢;obtain ⟨ys,zs,h5,h6,h7,h8⟩:=h4;exact ⟨ys,zs,h5,by simpa using h6,FVc.setCell (FVc.le _ hle _ h7) hj hnil,h8⟩
  ·refine ⟨.inr rfl,by simp [E',BQ],?_,by simp [BQ,FVr]⟩;rw [hHN];simp only [BQ,if_true];exact .inl ⟨rfl,rfl,rfl⟩
  obtain ⟨g1,g2,g3,g4⟩:=hr.objs r1 ob hf;rw [hH _ hn1];simp only [BQ,hn1,if_false];exact ⟨.inl g1,by simp [E',BQ,hn1,g2],g3,FVr.le _ _ (hle.by _) _ g4⟩
 ·intro r1 r2 o1 o2 k h1 h2 hb1 hb2;obtain ⟨⟨o1',g1⟩,g2⟩:=hblk r1 o1 k h1 hb1;obtain ⟨⟨o2',g3⟩,g4⟩:=hblk r2 o2 k h2 hb2;exact hr.apart r1 r2 o1' o2' k g1 g3 g2 g4
 ·intro k hk;refine ⟨(hr.stay k hk).1,fun r1 ob hf e=>?_⟩;obtain ⟨⟨o',g1⟩,g2⟩:=hblk r1 ob k hf e;exact (hr.stay k hk).2 r1 o' g1 g2
 ·rintro r1 (hD | rfl)
  ·exact Nat.lt_succ_of_lt (hr.fresh r1 hD)
  exact Nat.lt_succ_self _
 ·intro r1 ob k hf hb;obtain ⟨⟨o',g1⟩,g2⟩:=hblk r1 ob k hf hb;exact hr.mine r1 o' k g1 g2
 ·intro r1 hk;have:=hne r1 (hr.envD r1 hk);obtain ⟨h1,h2⟩:=hr.env r1 hk;exact ⟨by rw [hH _ this];exact h1,by simp only [E',BQ,this,if_false];exact h2⟩
 intro r1 hk;exact .inl (hr.envD r1 hk)
def Da (x:UInt8):List AV:=[.lit (.int .u8 (x.toNat:Int))]
theorem Pn (l:List UInt8):Go.Lib.strCells (⟨l.toArray⟩:ByteArray)=l.map fun x=> .int .u8 (x.toNat:Int):=by
 simp [Go.Lib.strCells]
theorem MP (E:Env):∀ l:List UInt8,FVr E 1 (l.map Da) (l.map fun x=> .int .u8 (x.toNat:Int))
 |[]=>rfl
 |x :: l=>by
  simp only [List.map_cons,FVr];exact ⟨[_],_,rfl,rfl,⟨_,[],rfl,rfl,rfl,rfl⟩,MP E l⟩
theorem ME {P:Program} {w:World} (t u ty e:TypeId) (i:TypeInfo) (z:Value) (ht:P.underlying t=some (.slice e)) (hu:P.underlying u=some .string) (hi:P.info? e=some i) (hz:i.zero=some z) (hzs:z.cells.size=i.size) (h1:i.size=1)
 (v:Value) (xs:List Value) (o:Obj) (hslc:o.slc=true) (hel:o.elem=e) (hosz:o.sz=i.size) (hok:ObjOK w v xs o) (hsl:∃ A0 n0 c0,v= .slice A0 n0 c0) (hxl:xs.length=o.rows.length * i.size)
 (l:List UInt8) (h63:o.rows.length+l.length≤maxLen) (hbytes:(o.rows.length+l.length) * i.bytes≤140737488355328) (cl:Bool) :
 ∃ v' w',(Builtin.append_ #[t,u] ty #[v,C9 l]).run P w= .ok v' w'∧ObjOK w' v' (xs ++ (l.map fun x=> .int .u8 (x.toNat:Int))) ⟨true,e,i.size,o.rows ++ l.map Da,cl⟩ ∧
  w'.os=w.os∧Tp w w'∧w'.output=w.output∧w.heap.size≤w'.heap.size∧(∀ k,k < w.heap.size→blockOf v≠some k→w'.heap[k]?= w.heap[k]?) ∧
  (∀ k,blockOf v'=some k→(blockOf v=some k∨w.heap.size≤k)∧k < w'.heap.size)∧∃ A0 n0 c0,v'= .slice A0 n0 c0:=by
 have hokk:=hok
 unfold ObjOK at hok
 rw [hslc] at hok
 simp only at hok
 have hss:(⟨l.toArray⟩:ByteArray).size=l.length:=E9 l;have hcs0:=Pn l
 have hsc:(Go.Lib.strCells (⟨l.toArray⟩:ByteArray)).length=l.length:=by rw [hcs0];simp
 have h63':o.rows.length+l.length≤9223372036854775807:=by simp only [maxLen] at h63;omega
 have hlen:(xs ++ (l.map fun x=>Value.int .u8 (x.toNat:Int))).length=(o.rows.length+l.length) * i.size:=by rw [List.length_append,hxl,List.length_map,h1];omega
 by_cases hl0:l=[]
 ·subst hl0
  have hrun:(Builtin.append_ #[t,u] ty #[v,C9 []]).run P w= .ok v w:=by
   obtain ⟨A0,n0,c0,rfl⟩:=hsl
   have hle:n0≤c0:=by
    rcases hok with ⟨h,_,_⟩ | ⟨b,cap,cur,h,_,h',_⟩ | ⟨b,es,clk,h,_⟩
    ·simp only [Value.slice.injEq] at h;omega
    ·simp only [Value.slice.injEq] at h;omega
    cases h
   cases A0 with
   |none=>simp [Builtin.append_,run_underlying ht,run_underlying hu,sizeOf,typeInfo,hi,Builtin.lenOf,Builtin.firstCells,hle,hss]
   |some a0=>simp [Builtin.append_,run_underlying ht,run_underlying hu,sizeOf,typeInfo,hi,Builtin.lenOf,Builtin.firstCells,hle,hss,storeCells]
  refine ⟨v,w,hrun,?_,rfl,Tp.refl _,rfl,Nat.le_refl _,fun _ _ _=>rfl,fun k hk=>⟨.inl hk,hokk.lt hk⟩,hsl⟩
  unfold ObjOK
  simp only [List.append_nil,List.map_nil];rw [← hel, ← hosz];exact hok
 have hlp:0 < l.length:=List.length_pos_iff.2 hl0
 have grown:∀ (old:Nat) (cs:List Value),cs=xs →
  ObjOK (w.drew.alloc (.cells (cs.toArray ++ (Go.Lib.strCells (⟨l.toArray⟩:ByteArray)).toArray ++ Builtin.zeroCells z.cells (grownCap w (o.rows.length+l.length) old e - (o.rows.length+l.length))) e))
   (.slice (some ⟨w.heap.size,0,none⟩) (o.rows.length+l.length) (grownCap w (o.rows.length+l.length) old e)) (xs ++ (l.map fun x=> .int .u8 (x.toNat:Int))) ⟨true,e,i.size,o.rows ++ l.map Da,cl⟩:=by
  rintro old _ rfl;have hge:=grownCap_ge w (o.rows.length+l.length) old e;have hcm:grownCap w (o.rows.length+l.length) old e≤maxLen:=grownCap_le_maxLen w _ old e h63
  unfold ObjOK
  simp only [List.length_append,List.length_map];refine .inr (.inl ⟨_,_,_,rfl,heap_alloc_new w.drew _,hge,hcm,?_,?_⟩)
  ·simp only [Array.size_append,List.size_toArray,size_zeroCells,hzs,hxl,hsc,h1,Nat.mul_one];omega
  ·simp only [Array.toList_append,List.append_assoc,hcs0];rw [← List.append_assoc, ← hlen];exact List.take_left
 rcases hok with ⟨rfl,hr0,rfl⟩ | ⟨g,cap,cur,rfl,hg,hnc,hcm,hcs,htake⟩ | ⟨b,es,clk,rfl,_⟩
 ·have hr:=run_append_nil_string (P:=P) (w:=w) t u ty e i z ht hu hi hz ⟨l.toArray⟩ (by rw [hss];exact hlp) (by rw [hss];omega) (by rw [hss];rw [hr0] at hbytes;simp at hbytes;omega);have hgr:=grown 0 [] rfl;rw [hr0] at hgr ⊢;rw [hss] at hr;simp only [List.length_nil,Nat.zero_add,List.nil_append,Array.empty_append] at hgr ⊢
  have hsa:(Go.Lib.strCells (⟨l.toArray⟩:ByteArray)).toArray=Array.map (fun b:UInt8=>Value.int .u8 (b.toNat:Int)) l.toArray:=by rw [hcs0];simp
  rw [hsa] at hgr;refine ⟨_,_,hr,hgr,rfl,⟨rfl,Nat.le_succ _⟩,rfl,by simp,fun k hk _=>Go.heap_alloc_old w.drew _ hk,fun k hk=>?_,_,_,_,rfl⟩
  simp [blockOf,baseOf] at hk
  subst hk;exact ⟨.inr (Nat.le_refl _),by simp⟩
 ·by_cases hroom:o.rows.length+l.length≤cap
  ·rw [hosz,h1,Nat.mul_one] at hcs htake;rw [hel] at hg;have hr:=Go.Lib.run_append_room_string (P:=P) (w:=w) t u ty e i ht hu hi h1 g o.rows.length cap cur hg ⟨l.toArray⟩ (by rw [hss];exact hroom) (by rw [hss,hcs];exact hroom);rw [hss,hcs0] at hr;refine ⟨_,_,hr,?_,rfl,⟨rfl,Nat.le_refl _⟩,rfl,by simp,fun k hk hne=>setRow_other w g k _ (fun e'=>hne (by simp [blockOf,baseOf,e'])),fun k hk=>⟨.inl hk,?_⟩,_,_,_,rfl⟩
   ·unfold ObjOK
    simp only [List.length_append,List.length_map];refine .inr (.inl ⟨g,cap,_,rfl,setRow_heap w g cur _ e _ hg,hroom,hcm,?_,?_⟩)
    ·simp only [List.size_toArray,List.length_append,List.length_take,List.length_drop,Array.length_toList,List.length_map,h1];omega
    rw [htake, ← hlen];exact List.take_left
   have:=hokk.lt (b:=k) (by simpa [blockOf,baseOf] using hk)
   simpa using this
  have hhold:∀ j u,xs[j]?= some u→w.cell? ((⟨g,0,none⟩:Addr).add j)=some u:=(hokk.holds (a0:=⟨g,0,none⟩) rfl).2;have hr:=Go.Lib.run_append_grow_string (P:=P) (w:=w) t u ty e i z ht hu hi hz ⟨g,0,none⟩ _ cap xs hxl hhold ⟨l.toArray⟩ (by rw [hss];omega) (by rw [hss];omega) (by rw [hss];exact growslice_fits (by omega) hbytes);have hgr:=grown cap xs rfl;rw [hss] at hr;refine ⟨_,_,hr,hgr,rfl,⟨rfl,Nat.le_succ _⟩,rfl,by simp,fun k hk _=>Go.heap_alloc_old w.drew _ hk,fun k hk=>?_,_,_,_,rfl⟩
  simp [blockOf,baseOf] at hk
  subst hk;exact ⟨.inr (Nat.le_refl _),by simp⟩
 obtain ⟨_,_,_,h⟩:=hsl;cases h
variable {ops:Array Oper} {rest:List Oper} {Q:St→Prop} {d ty:Nat} {pos:String} {aft:Array Edge} {g:Option (Nat × Bool)} {x y:Operand} {u:AV}
theorem Vg {l1 l2:List UInt8} {st su el:Nat} {zs:List AV} {hr0:Option Nat} {by':Nat} (b':List (Nat × Obj)) (hel:A9 P st=some el) (hsu:P.underlying su=some .string) (hze:AK P el=some zs) (hcl:P.cellsOf el=1) (hby:P.bytesOf el=by')
 (hx:AJ s x=some u:=by exact rfl) (hy:AJ s y=some (.lit (C9 l2)):=by exact rfl) (hh:Fj ⟨s,b,n,t,e⟩ el 1 u=some (hr0,l1.map Da,true))
 (hm1:(l1.length+l2.length) * by'≤140737488355328:=by (try simp only [List.length_append,List.length_cons,List.length_nil,List.length_map]);omega) (hm2:l1.length+l2.length≤140737488355328:=by (try simp only [List.length_append,List.length_cons,List.length_nil,List.length_map]);omega) (hz:Nat.beq zs.length 1=true:=by exact rfl)
 (hb':St.drop1 ⟨s,b,n,t,e⟩ hr0=b':=by exact rfl) (hg:AL (AU ops) ⟨s,b,n,t,e⟩ g=some true:=by exact rfl) (hd:Nat.blt d t=true:=by exact rfl) (h:SeqL P ops rest ⟨(d, .als n 0 (l1 ++ l2).length) :: s,(n,⟨true,el,1,(l1 ++ l2).map Da,true⟩) :: b',n+1,t,e⟩ Q) :
 SeqL P ops (⟨some d, .call { callee:= .builtin .append,args:= #[x,y],argTypes:= #[st,su] },ty,pos,aft,g⟩ :: rest) ⟨s,b,n,t,e⟩ Q:=by
 subst hb';refine SeqL.of_run hg fun C E X a hr=>?_;obtain ⟨i,z,hi,hzz,rfl,_,_⟩:=Ca hze;have hsz:=B8 hi;rw [hcl] at hsz;rw [Nat.beq_eq] at hz;simp only [List.length_map,Array.length_toList] at hz
 have hbi:P.bytesOf el=i.bytes:=by simp [Program.bytesOf,hi]
 rw [hbi] at hby
 subst hby
 have hund:=BL hel;rw [hsz] at hh;rw [← AB (b:=b) (n:=n) (t:=t) (e:=e) hx] at hh;obtain ⟨v,xs,o1,hxe,hs1,he1,hz1,hrw,hok1,hfr1,hblk,hsl⟩:=hr.head hh;have hye:=CU hr hy
 have hol:o1.rows.length=l1.length:=by rw [hrw,List.length_map]
 obtain ⟨v',w',hrun,hok',e1,e2,e3,e4,e5,e6,hsl'⟩:=ME (P:=P) (w:=E.w) st su ty el i z hund hsu hi hzz (by rw [← hsz];exact hz) hsz.symm v xs o1 hs1 he1 hz1 hok1 hsl (by rw [hfr1.length,hrw]) l2 (by rw [hol];unfold maxLen;omega) (by rw [hol];exact hm1) (true && true);obtain ⟨E',X',rfl,hrel,hval⟩:=hr.appended (hrw ▸ hfr1) hblk (by rw [← hsz];exact MP (E.by true) l2) hok' e1 e2 e3 e4 e5 e6 hsl';have hput:=hrel.put (some d) (fun d' e'=>by cases e';exact Nat.le_of_ble_eq_true hd) hval;refine ⟨v',E',X',_,?_,hput,?_⟩
 ·unfold execOp
  simp only [resolve,invoke,builtin,Sem.run_bind,Sem.run_pure,Result.andThen_ok,List.map_toArray,List.map_cons,List.map_nil,hxe,hye,hrun]
 have e7:o1.rows.length+(l2.map Da).length=(l1 ++ l2).length:=by rw [hol];simp
 have e8:o1.rows ++ l2.map Da=(l1 ++ l2).map Da:=by rw [hrw,List.map_append]
 simp only [St.put,e7,e8, ← hsz,Bool.and_self];exact h
end
end Go.AM
