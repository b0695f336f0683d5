/-
  Part 14 of the proof: the abstract machine, proved sound over the model.
  Conditions: none.
-/
import Derived.Laws.CopyRow
import Derived.Test.YtaololdbooblkaaGreatDoorX13
set_option linter.unusedVariables false
set_option linter.unusedSimpArgs false
set_option linter.unusedSectionVars false
namespace Go.AM
section
open Go.Proofs
section
variable {P:Program} {s:List (Nat × AV)} {b:List (Nat × Obj)} {n t e r:Nat} {ops:Array Oper} {rest:List Oper} {Q:St→Prop} {d ty:Nat} {pos:String} {aft:Array Edge} {g:Option (Nat × Bool)} {x y:Operand}
theorem Mr (gb i:Nat):(⟨gb,0,none⟩:Addr).add i=⟨gb,i,none⟩:=by unfold Addr.add;split <;> simp_all
theorem Yc {T:Type} {f:T→List AV} {l:List T} {st el i j m1 m2:Nat} {zs:List AV} {σ:St} (hel:A9 P st=some el) (hze:AK P el=some zs) (hcl:P.cellsOf el=1)
 (hx:σ.ev x= .als r i m1) (hy:σ.ev y= .als r j m2) (ho:Al σ.objs r=some ⟨true,el,1,l.map f,true⟩) (him:i+m1≤l.length) (hjm:j+m2≤l.length) (h1:0 < m1) (h2:0 < m2) (hd:d < σ.nt) :
 Writer P σ ⟨some d, .call { callee:= .builtin .copy,args:= #[x,y],argTypes:= #[st,st] },ty,pos,aft,none⟩ (σ.wr [(d, .lit (.int .i64 ((min m2 m1:Nat):Int)))] r ⟨true,el,1,(l.take i ++ (l.drop j).take (min m2 m1) ++ l.drop (i+min m2 m1)).map f,true⟩):=by
 intro C E X a hr K' Q' hk;obtain ⟨i0,z,hi,hzz,rfl,_,_⟩:=Ca hze;have hsz:=B8 hi;rw [hcl] at hsz;have hund:=BL hel;have hxv:=hr.ev x;rw [hx] at hxv;have hyv:=hr.ev y;rw [hy] at hyv;simp only [FV] at hxv hyv;obtain ⟨hD,A0,n0,c0,A,cc,hH,hxe,hnc,_,hA⟩:=hxv;obtain ⟨_,B0,k0,d0,B,cc',hH',hye,hnc',_,hB⟩:=hyv;rw [hH] at hH';simp only [Value.slice.injEq] at hH';obtain ⟨rfl,rfl,rfl⟩:=hH';obtain ⟨gb,cap,cur,hd1,hZ,hgb,hcap,hmax,hcs,htk,hrow,hwr⟩:=hr.rowAt ho (by simp;omega) hH;rw [hH] at hd1;simp only [Value.slice.injEq,List.length_map] at hd1;obtain ⟨rfl,rfl,rfl⟩:=hd1;simp only [List.length_map] at hcap htk;obtain ⟨a1,ea,hsp1,rfl⟩:=hA h1;obtain ⟨a2,eb,hsp2,rfl⟩:=hB h2;simp only [Option.some.injEq] at ea eb;subst ea;have eb':=eb.symm;subst eb';have hmm:min m2 m1≤m2:=Nat.min_le_left _ _;have hmm1:min m2 m1≤m1:=Nat.min_le_right _ _;have hrows2:FVr E.clear 1 (((l.map f).drop j).take (min m2 m1)) (((X r).drop (j * 1)).take (min m2 m1 * 1)):=(hrow.drop j).take _
 have hl2:(((l.map f).drop j).take (min m2 m1)).length=min m2 m1:=by simp only [List.length_take,List.length_drop,List.length_map];omega
 obtain ⟨X',hrel⟩:=hwr i _ _ (by rw [hl2,List.length_map];omega) hrows2;have hnl:=hrows2.length;rw [hl2,Nat.mul_one] at hnl
 try simp only [Nat.mul_one] at hnl
 have hh:holds E.w ⟨gb,0,none⟩ (X r):=((hr.objs r _ ho).2.2.1.holds (a0:=⟨gb,0,none⟩) (by rw [hH];rfl)).2
 have hrun:(Builtin.copy_ #[st,st] ty #[.slice (some ((⟨gb,0,none⟩:Addr).add (i * E.Z r))) m1 cc, .slice (some ((⟨gb,0,none⟩:Addr).add (j * E.Z r))) m2 cc']).run P E.w= .ok (goInt ((min m2 m1:Nat):Int)) (E.w.setRow gb (cur.toList.take (i * 1) ++ ((X r).drop (j * 1)).take (min m2 m1 * 1) ++ cur.toList.drop (i * 1+(((X r).drop (j * 1)).take (min m2 m1 * 1)).length)).toArray):=by
  rw [hZ];simp only [Nat.mul_one]
  have h3:=run_copy_row (P:=P) E.w st st ty el gb i m1 cc ((⟨gb,0,none⟩:Addr).add j) m2 cc' cur el (((X r).drop j).take (min m2 m1)) hund (by rw [hi,Option.map_some,hsz]) hgb hnl (by
   have:=(hh.drop hsp2 j).take (min m2 m1)
   exact this) (by rw [hnl,hcs,Nat.mul_one];omega) (by simpa using hrows2.one)
  rw [Mr,Mr] at *;rw [h3,hnl]
 have hput:=hrel.put (some d) (v:= .lit (.int .i64 ((min m2 m1:Nat):Int))) (y:=goInt ((min m2 m1:Nat):Int)) (fun d' e'=>by cases e';exact hd) (by simp only [FV];rfl)
 have hex:(execOp a.eval ⟨some d, .call { callee:= .builtin .copy,args:= #[x,y],argTypes:= #[st,st] },ty,pos,aft,none⟩).run P E.w= .ok (.value (goInt ((min m2 m1:Nat):Int))) (E.w.setRow gb (cur.toList.take (i * 1) ++ ((X r).drop (j * 1)).take (min m2 m1 * 1) ++ cur.toList.drop (i * 1+(((X r).drop (j * 1)).take (min m2 m1 * 1)).length)).toArray):=by
  unfold execOp
  simp only [resolve,invoke,builtin,Sem.run_bind,Sem.run_pure,Result.andThen_ok,List.map_toArray,List.map_cons,List.map_nil,hxe,hye,hrun]
 refine Ie hex (hk { E with w:=E.w.setRow gb (cur.toList.take (i * 1) ++ ((X r).drop (j * 1)).take (min m2 m1 * 1) ++ cur.toList.drop (i * 1+(((X r).drop (j * 1)).take (min m2 m1 * 1)).length)).toArray } X' _ ?_);refine hput.sub (fun s v hv=>?_) (fun q ob hq=>?_) (Nat.le_refl _) rfl rfl
 ·exact hv
 rw [hl2];rw [← List.map_drop, ← List.map_take, ← List.map_take, ← List.map_drop, ← List.map_append, ← List.map_append];simp only [St.wr,St.put,A8] at hq ⊢
 split at hq
 ·rename_i e;rw [if_pos e];exact hq
 rename_i e;rw [if_neg e,Cj,if_neg e];exact hq
theorem XT {T:Type} {f:T→List AV} {l l2:List T} {st el i m1:Nat} {zs:List AV} (b':List (Nat × Obj)) (hel:A9 P st=some el) (hze:AK P el=some zs) (hcl:P.cellsOf el=1)
 (hx:AJ s x=some (.als r i m1):=by exact rfl) (hy:AJ s y=some (.sh 1 (l2.map f)):=by exact rfl) (ho:Al b r=some ⟨true,el,1,l.map f,true⟩:=by exact rfl) (him:i+m1≤l.length:=by first | omega | (simp only [List.length_replicate];omega)) (h1:0 < m1:=by first | omega | (simp only [List.length_replicate];omega)) (h2:0 < l2.length:=by first | omega | (simp only [List.length_replicate];omega))
 (hb':Ct b r=b':=by exact rfl) (hg:AL (AU ops) ⟨s,b,n,t,e⟩ g=some true:=by exact rfl) (hd:Nat.blt d t=true:=by exact rfl)
 (h:SeqL P ops rest ⟨(d, .lit (.int .i64 ((min l2.length m1:Nat):Int))) :: s,(r,⟨true,el,1,(l.take i ++ l2.take (min l2.length m1) ++ l.drop (i+min l2.length m1)).map f,true⟩) :: b',n,t,e⟩ Q) :
 SeqL P ops (⟨some d, .call { callee:= .builtin .copy,args:= #[x,y],argTypes:= #[st,st] },ty,pos,aft,g⟩ :: rest) ⟨s,b,n,t,e⟩ Q:=by
 subst hb';refine SeqL.of_run hg fun C E X a hr=>?_;obtain ⟨i0,z,hi,hzz,rfl,_,_⟩:=Ca hze;have hsz:=B8 hi;rw [hcl] at hsz;have hund:=BL hel;have hxv:=hr.ev x;rw [AB hx] at hxv;have hyv:=hr.ev y;rw [AB hy] at hyv;simp only [FV] at hxv hyv;obtain ⟨hD,A0,n0,c0,A,cc,hH,hxe,hnc,_,hA⟩:=hxv;obtain ⟨B,cc',ys,hye,hnc',hfr,hB⟩:=hyv;obtain ⟨gb,cap,cur,hd1,hZ,hgb,hcap,hmax,hcs,htk,hrow,hwr⟩:=hr.rowAt ho (by simp;omega) hH;rw [hH] at hd1;simp only [Value.slice.injEq,List.length_map] at hd1;obtain ⟨rfl,rfl,rfl⟩:=hd1;simp only [List.length_map] at hcap htk
 try simp only [List.length_map] at hye
 try simp only [List.length_map] at hnc'
 obtain ⟨a1,ea,hsp1,rfl⟩:=hA h1;obtain ⟨a2,rfl,hsp2,hS2,hh⟩:=hB (by intro h0;simp at h0;subst h0;simp at h2);simp only [Option.some.injEq] at ea;subst ea;have hmm:min l2.length m1≤l2.length:=Nat.min_le_left _ _;have hmm1:min l2.length m1≤m1:=Nat.min_le_right _ _;have hrows2:FVr E.clear 1 ((l2.map f).take (min l2.length m1)) (ys.take (min l2.length m1 * 1)):=hfr.take _
 have hl2:((l2.map f).take (min l2.length m1)).length=min l2.length m1:=by simp only [List.length_take,List.length_map];omega
 obtain ⟨X',hrel⟩:=hwr i _ _ (by rw [hl2,List.length_map];omega) hrows2;have hnl:=hrows2.length;rw [hl2,Nat.mul_one] at hnl
 try simp only [Nat.mul_one] at hnl
 have hrun:(Builtin.copy_ #[st,st] ty #[.slice (some ((⟨gb,0,none⟩:Addr).add (i * E.Z r))) m1 cc, .slice (some a2) l2.length cc']).run P E.w= .ok (goInt ((min l2.length m1:Nat):Int)) (E.w.setRow gb (cur.toList.take (i * 1) ++ ys.take (min l2.length m1 * 1) ++ cur.toList.drop (i * 1+(ys.take (min l2.length m1 * 1)).length)).toArray):=by
  rw [hZ];simp only [Nat.mul_one];have h3:=run_copy_row (P:=P) E.w st st ty el gb i m1 cc a2 l2.length cc' cur el (ys.take (min l2.length m1)) hund (by rw [hi,Option.map_some,hsz]) hgb hnl (fun j v hv=>(hh.take _) j v hv) (by rw [hnl,hcs,Nat.mul_one];omega) (by simpa using hrows2.one);rw [Mr];rw [h3,hnl]
 have hput:=hrel.put (some d) (v:= .lit (.int .i64 ((min l2.length m1:Nat):Int))) (y:=goInt ((min l2.length m1:Nat):Int)) (fun d' e'=>by cases e';exact Nat.le_of_ble_eq_true hd) (by simp only [FV];rfl);refine ⟨_,_,X',_,?_,hput,?_⟩
 ·unfold execOp
  simp only [resolve,invoke,builtin,Sem.run_bind,Sem.run_pure,Result.andThen_ok,List.map_toArray,List.map_cons,List.map_nil,hxe,hye,hrun]
 rw [hl2];simp only [St.put];rw [← List.map_take, ← List.map_take, ← List.map_drop, ← List.map_append, ← List.map_append];exact h
end
end
def Rj (P:Program) (l:List Oper) (T:List (List Bool)) (nx:Nat) (Q:St→Prop) (rest:List Oper) (i:Nat) (σ:St) (N:List (Nat × Obj)):Prop :=
 ∃ (oK:Oper) (rest':List Oper) (dK:Nat) (vK:AV) (r:Nat) (o0:Obj) (x y:Operand) (j0 d0 t0 ty0:Nat) (pos0:String) (aft0:Array Edge) (v0:AV),rest=oK :: rest'∧oK.guard=none∧N=[] ∧
  ([x,y].all (LJ (dstsL (l.take i)) ((T[i]?).getD [])))=true∧(∀ σ':St,σ'.ev x=σ.ev x→σ'.ev y=σ.ev y→Al σ'.objs r=Al σ.objs r→σ'.nt=σ.nt→Writer P σ' oK (σ'.wr [(dK,vK)] r o0)) ∧
  Al σ.slots dK=none∧l[j0]?= some ⟨some d0, .move (.tmp t0),ty0,pos0,aft0,none⟩∧(dstsL (l.take i)).elem t0=false∧Al σ.slots t0=some v0∧Al σ.slots d0=some v0 ∧
  ((List.range i).all fun j=>DO T i j || Nat.beq j j0)=true∧SeqL P ⟨l⟩ rest' ⟨(dK,vK) :: σ.slots,(r,o0) :: σ.objs,nx,σ.nt,σ.env⟩ Q
theorem SE {P:Program} {l:List Oper} {σ:St} {nx:Nat} {Q:St→Prop} {T:List (List Bool)} {K:Nat} (hnd:(dstsL (l.take K)).Nodup) :
 ∀ (rest:List Oper) (σc:St) (N:List (Nat × Obj)) (R:List Res),R.length=K→l.drop K=rest→σc.slots=(R.map fun r=>(r.dst,r.v)).reverse ++ σ.slots→σc.objs=σ.objs→σc.nt=σ.nt→σc.env=σ.env→σc.next=σ.next→N=R.flatMap (·.new)→R.map (·.dst)=dstsL (l.take R.length)→(∀ j r,R[j]?= some r→DS (σ.next+4 * j) r.new) →
  Rj P l T nx Q rest K σc N→Mp P l T σ nx K Q rest R:=by
 intro rest σc N R hRK hl hs ho ht he hnx hN hds hids h
 have hRnd:(R.map (·.dst)).Nodup:=by rw [hds,hRK];exact hnd
 obtain ⟨oK,rest',dK,vK,r,o0,x,y,j0,d0,t0,ty0,pos0,aft0,v0,h1,h2,h3,h4,h5,h6,h7,h8,h9,h10,h11,h12⟩:=h
 have hnew:∀ q ∈ R,q.new=[]:=by
  intro q hq
  cases hnw:q.new with
  |nil=>rfl
  |cons p ps =>
   exfalso
   have:p ∈ N:=by rw [hN];exact List.mem_flatMap.2 ⟨q,hq,by rw [hnw];simp⟩
   rw [h3] at this
   cases this
 have hdR:∀ q ∈ R,q.dst≠dK:=by
  intro q hq e;obtain ⟨j,hj⟩:=List.mem_iff_getElem?.1 hq;rw [hs,find_rev R σ.slots dK j q hRnd hj e] at h6
  cases h6
 have hdS:Al σ.slots dK=none:=by
  rw [hs,find_rev_none R σ.slots dK (by
   intro hm;obtain ⟨q,hq,e⟩:=List.mem_map.1 hm
   exact hdR q hq e)] at h6
  exact h6
 have hob:∀ bs:List Bool,objsM bs R=[]∨∀ k,Al (objsM bs R) k=none:=by
  intro bs;refine .inr fun k=>?_
  cases hf:Al (objsM bs R) k with
  |none=>rfl
  |some ob =>
   exfalso
   obtain ⟨m,q,k1,k2,k3⟩:=find_objsM _ R k ob hf;rw [hnew q (List.mem_of_getElem? k2)] at k3
   simp [Al] at k3
 have hobj:∀ (bs:List Bool) (k:Nat),Al (objsM bs R ++ σ.objs) k=Al σ.objs k:=by
  intro bs k;rw [AZ]
  rcases hob bs with h | h
  ·rw [h];simp [Al]
  rw [h k];rfl
 refine ⟨oK,rest',[(dK,vK)],r,o0,h1,h2,fun p hp=>?_,?_,?_,?_⟩
 ·rw [List.mem_singleton] at hp;subst hp;exact ⟨hdS,hdR⟩
 ·intro i hi hb o q ho2 hq hdst
  have hij:i=j0:=by
   rw [List.all_eq_true] at h11;have:=h11 i (by simpa using hi);rw [hb,Bool.false_or] at this;exact Nat.eq_of_beq_eq_true this
  subst hij;rw [h7] at ho2;simp only [Option.some.injEq] at ho2;subst ho2;simp only [Option.some.injEq] at hdst;refine ⟨hnew q (List.mem_of_getElem? hq), .inl ⟨rfl,?_⟩⟩
  have hv:q.v=v0:=by
   rw [hs,find_rev R σ.slots d0 i q hRnd hq hdst.symm] at h10
   simpa using h10
  have htR:t0 ∉ R.map (·.dst):=by
   rw [hds,hRK];intro hm
   have:(dstsL (l.take K)).elem t0=true:=by simpa using hm
   rw [this] at h8
   cases h8
  have ht0:Al σ.slots t0=some v0:=by
   rw [hs,find_rev_none R σ.slots t0 htR] at h9;exact h9
  rw [hv];refine EO (id:=0) ?_
  show At P _ 0 (.move (.tmp t0))=some (v0,[])
  simp only [At]
  have hev:((C4 σ nx ((T[i]?).getD []) R).less r).ev (.tmp t0)=v0:=by
   show ((C4 σ nx ((T[i]?).getD []) R).less r).get t0=v0
   unfold St.get
   simp only [St.less,C4];rw [find_slotsM_none _ R _ t0 htR,ht0]
  rw [hev]
 ·intro bs hbs
  have hslot:∀ z,LJ (dstsL (l.take K)) ((T[K]?).getD []) z=true→(C4 σ nx bs R).ev z=σc.ev z:=by
   intro z hz
   cases z with
   |const c=>rfl
   |global g=>rfl
   |func f=>rfl
   |tmp d =>
    show (C4 σ nx bs R).get d=σc.get d
    unfold St.get
    simp only [C4,hs]
    by_cases hm:d ∈ R.map (·.dst)
    ·obtain ⟨q,hq,rfl⟩:=List.mem_map.1 hm;obtain ⟨j,hj⟩:=List.mem_iff_getElem?.1 hq;rw [find_rev R σ.slots q.dst j q hRnd hj rfl]
     have hz':okT (R.map (·.dst)) ((T[K]?).getD []) q.dst=true:=by rw [hds,hRK];exact hz
     have hb:=okT_spec _ _ q.dst hz' hRnd j (by rw [List.getElem?_map,hj];rfl);have hb2:=hbs j (by unfold DO;rw [List.getD_eq_getElem?_getD,hb];rfl);rw [AZ,slotsM_find bs R j q hRnd hb2 hj];rfl
    rw [find_slotsM_none bs R _ d hm,find_rev_none R _ d hm]
  simp only [List.all_cons,List.all_nil,Bool.and_true,Bool.and_eq_true] at h4;refine h5 (C4 σ nx bs R) (hslot x h4.1) (hslot y h4.2) ?_ (by rw [ht];rfl);rw [ho];exact hobj bs r
 refine SeqL.weaken (σ':=⟨(dK,vK) :: σc.slots,(r,o0) :: σc.objs,nx,σc.nt,σc.env⟩) (Wk.sub ?_ ?_ (Nat.le_refl _) ht he) h12
 ·intro s v hv;simp only [St.wr,FP,List.cons_append,List.nil_append];rw [A8] at hv ⊢
  split at hv
  ·rename_i e;rw [if_pos e];exact hv
  rename_i e
  rw [if_neg e];rw [hs] at hv
  by_cases hm:s ∈ R.map (·.dst)
  ·obtain ⟨q,hq,rfl⟩:=List.mem_map.1 hm;obtain ⟨j,hj⟩:=List.mem_iff_getElem?.1 hq;rw [find_rev R σ.slots q.dst j q hRnd hj rfl] at hv
   have hnd':(R.reverse.map (·.dst)).Nodup:=by rw [List.map_reverse];exact It hRnd
   have hr':q ∈ R.reverse:=List.mem_reverse.2 hq;obtain ⟨j',hj'⟩:=List.mem_iff_getElem?.1 hr';have:=find_rev R.reverse σ.slots q.dst j' q hnd' hj' rfl;rw [← List.map_reverse,List.reverse_reverse] at this;rw [this];exact hv
  rw [find_rev_none R _ s hm] at hv
  have hm':s ∉ R.reverse.map (·.dst):=by rw [List.map_reverse,List.mem_reverse];exact hm
  have:=find_rev_none R.reverse σ.slots s hm';rw [← List.map_reverse,List.reverse_reverse] at this;rw [this];exact hv
 intro k o hk;simp only [St.wr,FP,A8] at hk ⊢
 split at hk
 ·rename_i e;rw [if_pos e];exact hk
 rename_i e
 rw [if_neg e];rw [ho] at hk;rw [AZ]
 cases hf:Al (R.flatMap (·.new)) k with
 |none=>simpa using hk
 |some u =>
  exfalso
  obtain ⟨j,q,k1,k2⟩:=find_flat R k u hf;rw [hnew q (List.mem_of_getElem? k1)] at k2
  simp [Al] at k2
theorem P6 {P:Program} {s:List (Nat × AV)} {b:List (Nat × Obj)} {n t e:Nat} {Q:Exit→St→Prop} {id:Nat} {l:List Oper} (T:List (List Bool)) (K:Nat)
 (h:∀ Kt:St→Prop,(∀ σ',Q .normal σ'→Kt σ')→DM P l T (n+4 * K) (Rj P l T (n+4 * K) Kt) l K 0 ⟨s,b,n,t,e⟩ []) (hm:P.follows .mixedOrders=true:=by exact rfl) (hok:Gz l T ⟨s,b,n,t,e⟩ K=true:=by exact rfl) (hch:E5 l T K=true:=by exact rfl) (hTl:Nat.ble K T.length=true:=by exact rfl) (hkb:FE n b=true:=by exact rfl):Ev P (.region id ⟨l⟩ true) ⟨s,b,n,t,e⟩ Q:=by
 have hok':=hok;simp only [Gz,Bool.and_eq_true,decide_eq_true_eq,List.all_eq_true] at hok';obtain ⟨⟨_,hKl⟩,⟨_,hnd⟩,_⟩:=hok';refine MO T K hm hok (CG hTl) fun Kt hKt=>?_;have:=TG (σ:=⟨s,b,n,t,e⟩) hch hnd (CG hTl) (Nat.le_of_lt (Nat.le_of_ble_eq_true hKl)) hkb (SE hnd) (h Kt hKt) [] (by simp) rfl rfl (by simp) rfl rfl rfl rfl (by simp) rfl (by simp)
 simpa using this
section rules
variable {P:Program} {s:List (Nat × AV)} {b:List (Nat × Obj)} {n t e nx i:Nat} {l rest:List Oper} {T:List (List Bool)} {Q:St→Prop} {d ty r:Nat} {pos:String} {aft:Array Edge} {x y:Operand}
theorem XO {U:Type} {f:U→List AV} {l0:List U} {st el i1 j1 m1 m2 d0 t0 ty0:Nat} {zs:List AV} {pos0:String} {aft0:Array Edge} {v0:AV} (j0:Nat) (b':List (Nat × Obj)) (hel:A9 P st=some el) (hze:AK P el=some zs) (hcl:P.cellsOf el=1)
 (hx:AJ s x=some (.als r i1 m1):=by exact rfl) (hy:AJ s y=some (.als r j1 m2):=by exact rfl) (ho:Al b r=some ⟨true,el,1,l0.map f,true⟩:=by exact rfl) (him:i1+m1≤l0.length:=by omega) (hjm:j1+m2≤l0.length:=by omega) (h1:0 < m1:=by omega) (h2:0 < m2:=by omega)
 (hd:Nat.blt d t=true:=by exact rfl) (hok:([x,y].all (LJ (dstsL (l.take i)) ((T[i]?).getD [])))=true:=by exact rfl) (hdK:Al s d=none:=by exact rfl) (hj0:l[j0]?= some ⟨some d0, .move (.tmp t0),ty0,pos0,aft0,none⟩:=by exact rfl) (ht0:(dstsL (l.take i)).elem t0=false:=by exact rfl)
 (hv1:Al s t0=some v0:=by exact rfl) (hv2:Al s d0=some v0:=by exact rfl) (hanc:((List.range i).all fun j=>DO T i j || Nat.beq j j0)=true:=by exact rfl) (hb:Ct b r=b':=by exact rfl)
 (h:SeqL P ⟨l⟩ rest ⟨(d, .lit (.int .i64 ((min m2 m1:Nat):Int))) :: s,(r,⟨true,el,1,(l0.take i1 ++ (l0.drop j1).take (min m2 m1) ++ l0.drop (i1+min m2 m1)).map f,true⟩) :: b',nx,t,e⟩ Q) :
 DM P l T nx (Rj P l T nx Q) (⟨some d, .call { callee:= .builtin .copy,args:= #[x,y],argTypes:= #[st,st] },ty,pos,aft,none⟩ :: rest) 0 i ⟨s,b,n,t,e⟩ []:=by
 subst hb;refine .stop ⟨_,rest,d, .lit (.int .i64 ((min m2 m1:Nat):Int)),r,⟨true,el,1,(l0.take i1 ++ (l0.drop j1).take (min m2 m1) ++ l0.drop (i1+min m2 m1)).map f,true⟩,x,y,j0,d0,t0,ty0,pos0,aft0,v0,rfl,rfl,rfl,hok,fun σ' e1 e2 e3 e4=>?_,hdK,hj0,ht0,hv1,hv2,hanc,?_⟩
 ·refine Yc hel hze hcl (e1.trans (AB hx)) (e2.trans (AB hy)) (e3.trans ho) him hjm h1 h2 ?_;rw [e4];exact Nat.le_of_ble_eq_true hd
 refine SeqL.weaken (σ':=⟨(d, .lit (.int .i64 ((min m2 m1:Nat):Int))) :: s,(r,⟨true,el,1,(l0.take i1 ++ (l0.drop j1).take (min m2 m1) ++ l0.drop (i1+min m2 m1)).map f,true⟩) :: Ct b r,nx,t,e⟩) (Wk.sub (fun _ _ h=>h) (fun k o hk=>?_) (Nat.le_refl _) rfl rfl) h;simp only [A8] at hk ⊢
 split at hk
 ·rename_i e;rw [if_pos e];exact hk
 rename_i e
 rw [if_neg e];rw [Cj,if_neg e] at hk;exact hk
end rules
section rules2
variable {P:Program} {s:List (Nat × AV)} {b:List (Nat × Obj)} {n t e:Nat} {Q:Exit→St→Prop}
end rules2
def O4 (l:List Oper) (T:List (List Bool)) (K i:Nat):Option (Nat × Bool)→Bool
 |none=>true
 |some (j,_)=>match (AU ⟨l⟩)[j]? with
  |some (some d)=>okT (dstsL (l.take K)) ((T[i]?).getD []) d
  |_=>false
def Ks (l:List Oper) (T:List (List Bool)) (K:Nat):Bool :=
 (List.range K).all fun i=>DO T K i || (match l[i]? with
   |none=>true
   |some o=>O4 l T K i o.guard && (match readsM o.op with
    |none=>false
    |some xs=>xs.all (LJ (dstsL (l.take K)) ((T[i]?).getD []))))
inductive FreeL (P:Program) (gs:List (Option Nat)) (s:List (Nat × AV)) (σ:St):List Bool→List Oper→Prop
 |nil {l:List Oper}:FreeL P gs s σ [] l
 |skip {o:Oper} {bs:List Bool} {l:List Oper} (h:FreeL P gs s σ bs l):FreeL P gs s σ (true :: bs) (o :: l)
 |op {o:Oper} {bs:List Bool} {l:List Oper} {d:Nat} {v:AV} (hq:At P σ 0 o.op=some (v,[])) (hd:o.dst=some d) (hv:Al s d=some v) (hg:AL gs σ o.guard=some true) (h:FreeL P gs s σ bs l):FreeL P gs s σ (false :: bs) (o :: l)
 |sk {o:Oper} {bs:List Bool} {l:List Oper} {d:Nat} (hd:o.dst=some d) (hv:Al s d=some (.lit undef)) (hg:AL gs σ o.guard=some false) (h:FreeL P gs s σ bs l):FreeL P gs s σ (false :: bs) (o :: l)
theorem FreeL.get {P:Program} {gs:List (Option Nat)} {s:List (Nat × AV)} {σ:St}:∀ {bs:List Bool} {l:List Oper},FreeL P gs s σ bs l→∀ (i:Nat),bs[i]?= some false→∀ o,l[i]?= some o→∃ d v,o.dst=some d∧Al s d=some v∧((AL gs σ o.guard=some true∧At P σ 0 o.op=some (v,[]))∨(AL gs σ o.guard=some false∧v= .lit undef)):=by
 intro bs l h
 induction h with
 |nil=>intro i hi;simp at hi
 |skip h ih =>
  intro i hi o ho
  cases i with
  |zero=>simp at hi
  |succ i=>exact ih i (by simpa using hi) o (by simpa using ho)
 |op hq hd hv hg h ih =>
  intro i hi o ho
  cases i with
  |zero =>
   simp only [List.getElem?_cons_zero,Option.some.injEq] at ho;subst ho;exact ⟨_,_,hd,hv, .inl ⟨hg,hq⟩⟩
  |succ i=>exact ih i (by simpa using hi) o (by simpa using ho)
 |sk hd hv hg h ih =>
  intro i hi o ho
  cases i with
  |zero =>
   simp only [List.getElem?_cons_zero,Option.some.injEq] at ho;subst ho;exact ⟨_,_,hd,hv, .inr ⟨hg,rfl⟩⟩
  |succ i=>exact ih i (by simpa using hi) o (by simpa using ho)
theorem FreeL.o {P:Program} {gs:List (Option Nat)} {s:List (Nat × AV)} {σ:St} {op:Op} {bs:List Bool} {l:List Oper} {d:Nat} {v:AV} {ty:Nat} {pos:String} {aft:Array Edge} {g:Option (Nat × Bool)} (hq:At P σ 0 op=some (v,[])) (h:FreeL P gs s σ bs l) (hv:Al s d=some v:=by exact rfl) (hg:AL gs σ g=some true:=by exact rfl):FreeL P gs s σ (false :: bs) (⟨some d,op,ty,pos,aft,g⟩ :: l):= .op hq rfl hv hg h
def NP (P:Program) (l:List Oper) (T:List (List Bool)) (nx:Nat) (Q:St→Prop) (rest:List Oper) (i:Nat) (σ:St) (N:List (Nat × Obj)):Prop :=
 ∃ (oK:Oper) (rest':List Oper) (ty:TypeId) (x y:Operand) (r ri rj:Nat) (ob:Obj) (u:AV) (row cs:List AV),rest=oK :: rest'∧oK.op= .store ty x y∧oK.dst=none∧oK.guard=none∧N=[]∧(∃ q,P.info? ty=some q) ∧
  ([x,y].all (LJ (dstsL (l.take i)) ((T[i]?).getD [])))=true∧σ.ev x= .adr r ri rj∧σ.ev y=u∧Al σ.objs r=some ob∧ob.rows[ri]?= some row∧cellsAV u=some cs∧(Nat.ble (rj+cs.length) row.length && Nat.beq cs.length (P.cellsOf ty))=true ∧
  Ks l T i=true∧FreeL P (AU ⟨l⟩) σ.slots (σ.less r) ((List.range i).map (DO T i)) l ∧
  SeqL P ⟨l⟩ rest' ⟨σ.slots,(r,{ ob with rows:=ob.rows.set ri (splice row rj cs),cl:=ob.cl && closedL cs }) :: σ.objs,nx,σ.nt,σ.env⟩ Q
theorem SF {P:Program} {l:List Oper} {σ:St} {nx:Nat} {Q:St→Prop} {T:List (List Bool)} {K:Nat} (hnd:(dstsL (l.take K)).Nodup) :
 ∀ (rest:List Oper) (σc:St) (N:List (Nat × Obj)) (R:List Res),R.length=K→l.drop K=rest→σc.slots=(R.map fun r=>(r.dst,r.v)).reverse ++ σ.slots→σc.objs=σ.objs→σc.nt=σ.nt→σc.env=σ.env→σc.next=σ.next→N=R.flatMap (·.new)→R.map (·.dst)=dstsL (l.take R.length)→(∀ j r,R[j]?= some r→DS (σ.next+4 * j) r.new) →
  NP P l T nx Q rest K σc N→Mp P l T σ nx K Q rest R:=by
 intro rest σc N R hRK hl hs ho ht he hnx hN hds hids h
 have hRnd:(R.map (·.dst)).Nodup:=by rw [hds,hRK];exact hnd
 obtain ⟨oK,rest',ty,x,y,r,ri,rj,ob,u,row,cs,h1,h2,h3,h4,h5,h6,h7,h8,h9,h10,h11,h12,h13,h14,h15,h16⟩:=h
 have hnew:∀ q ∈ R,q.new=[]:=by
  intro q hq
  cases hnw:q.new with
  |nil=>rfl
  |cons p ps =>
   exfalso
   have:p ∈ N:=by rw [hN];exact List.mem_flatMap.2 ⟨q,hq,by rw [hnw];simp⟩
   rw [h5] at this
   cases this
 have hob:∀ bs:List Bool,∀ k,Al (objsM bs R) k=none:=by
  intro bs k
  cases hf:Al (objsM bs R) k with
  |none=>rfl
  |some ob =>
   exfalso
   obtain ⟨m,q,k1,k2,k3⟩:=find_objsM _ R k ob hf;rw [hnew q (List.mem_of_getElem? k2)] at k3
   simp [Al] at k3
 have hobj:∀ (bs:List Bool) (k:Nat),Al (objsM bs R ++ σ.objs) k=Al σ.objs k:=by
  intro bs k;rw [AZ,hob bs k];rfl
 have hslot:∀ (bs bs0:List Bool),(∀ j:Nat,bs0[j]?= some true→bs[j]?= some true)→∀ z,LJ (dstsL (l.take K)) bs0 z=true→(C4 σ nx bs R).ev z=σc.ev z:=by
  intro bs bs0 hbs z hz
  cases z with
  |const c=>rfl
  |global g=>rfl
  |func f=>rfl
  |tmp d =>
   show (C4 σ nx bs R).get d=σc.get d
   unfold St.get
   simp only [C4,hs]
   by_cases hm:d ∈ R.map (·.dst)
   ·obtain ⟨q,hq,rfl⟩:=List.mem_map.1 hm;obtain ⟨j,hj⟩:=List.mem_iff_getElem?.1 hq;rw [find_rev R σ.slots q.dst j q hRnd hj rfl]
    have hz':okT (R.map (·.dst)) bs0 q.dst=true:=by rw [hds,hRK];exact hz
    have hb:=okT_spec _ _ q.dst hz' hRnd j (by rw [List.getElem?_map,hj];rfl);have hb2:=hbs j hb;rw [AZ,slotsM_find bs R j q hRnd hb2 hj];rfl
   rw [find_slotsM_none bs R _ d hm,find_rev_none R _ d hm]
 refine ⟨oK,rest',[],r,{ ob with rows:=ob.rows.set ri (splice row rj cs),cl:=ob.cl && closedL cs },h1,h4,(fun p hp=>absurd hp (by simp)),?_,?_,?_⟩
 ·intro i hi hb o q ho2 hq hdst;have hfc:Ks l T K=true:=h14
  unfold Ks at hfc
  rw [List.all_eq_true] at hfc;have hf:=hfc i (by simpa using hi);rw [hb,Bool.false_or,ho2] at hf;simp only [Bool.and_eq_true] at hf;obtain ⟨hg,hx⟩:=hf;obtain ⟨d,v,e1,e2,e3⟩:=h15.get i (by rw [List.getElem?_map,List.getElem?_range hi];simp [hb]) o ho2;rw [hdst] at e1
  obtain rfl:q.dst=d:=by simpa using e1
  have hv:q.v=v:=by
   rw [hs,find_rev R σ.slots q.dst i q hRnd hq rfl] at e2
   simpa using e2
  have hgt:∀ b,AL (AU ⟨l⟩) (σc.less r) o.guard=some b→AL (AU ⟨l⟩) ((C4 σ nx ((T[i]?).getD []) R).less r) o.guard=some b:=by
   intro b hb
   cases hgo:o.guard with
   |none=>rw [hgo] at hb;exact hb
   |some g =>
    obtain ⟨j,want⟩:=g;rw [hgo] at hb hg
    unfold O4 at hg
    unfold AL at hb ⊢
    simp only at hb hg ⊢
    split at hg
    ·rename_i d hd
     rw [hd] at hb ⊢
     simp only at hb ⊢
     have h17:((C4 σ nx ((T[i]?).getD []) R).less r).get d=(σc.less r).get d:=hslot ((T[i]?).getD []) _ (fun j hj=>hj) (.tmp d) hg;rw [h17];exact hb
    cases hg
  refine ⟨hnew q (List.mem_of_getElem? hq),?_⟩
  rcases e3 with ⟨e4,e3⟩ | ⟨e4,e5⟩
  rotate_left
  ·exact .inr ⟨hgt _ e4,hv.trans e5⟩
  refine .inl ⟨hgt _ e4,?_⟩;rw [hv]
  cases hr:readsM o.op with
  |none=>rw [hr] at hx;cases hx
  |some xs =>
   rw [hr] at hx;refine EO (id:=0) (Jv hr (σ:=σc.less r) ?_ ?_ e3)
   ·intro k o' hk;simp only [St.less,C4] at hk ⊢;rw [Cj] at hk ⊢
    split at hk
    ·cases hk
    rename_i e
    rw [if_neg e,hobj, ← ho];exact hk
   intro z hz;have h17:=hslot ((T[i]?).getD []) _ (fun j hj=>hj) z (List.all_eq_true.1 hx z hz)
   cases z <;> exact h17
 ·intro bs hbs;simp only [List.all_cons,List.all_nil,Bool.and_true,Bool.and_eq_true] at h7;have hb0:∀ j:Nat,((T[K]?).getD [])[j]?= some true→bs[j]?= some true:=fun j hj=>hbs j (by unfold DO;rw [List.getD_eq_getElem?_getD,hj];rfl);have hx:=(hslot bs _ hb0 x h7.1).trans h8;have hy:=(hslot bs _ hb0 y h7.2).trans h9
  have hob2:Al (C4 σ nx bs R).objs r=some ob:=by
   show Al (objsM bs R ++ σ.objs) r=_
   rw [hobj, ← ho];exact h10
  have hw:Writer P (C4 σ nx bs R) oK _:=Writer.store h2 h6 (fun d hd=>by rw [h3] at hd;cases hd) (σ':={ (C4 σ nx bs R) with objs:=(r,{ ob with rows:=ob.rows.set ri (splice row rj cs),cl:=ob.cl && closedL cs }) :: Ct (C4 σ nx bs R).objs r }) (by
   rw [hx,hy]
   simp only [IY,hob2,Option.bind_some,h11,h12,h13,cond_true])
  intro C E X a hr K' Q' hk;refine hw C E X a hr K' Q' (fun E' X' a' hr'=>hk E' X' a' (hr'.sub ?_ ?_ (Nat.le_refl _) rfl rfl))
  ·intro s v hv;simp only [h3,St.put];exact hv
  intro k o hk';simp only [h3,St.put,St.wr,A8] at hk' ⊢
  split at hk'
  ·rename_i e;rw [if_pos e];exact hk'
  rename_i e
  rw [if_neg e,Cj,if_neg e];exact hk'
 refine SeqL.weaken (σ':=⟨σc.slots,(r,{ ob with rows:=ob.rows.set ri (splice row rj cs),cl:=ob.cl && closedL cs }) :: σc.objs,nx,σc.nt,σc.env⟩) (Wk.sub ?_ ?_ (Nat.le_refl _) ht he) h16
 ·intro s v hv;simp only [St.wr,FP,List.nil_append];rw [hs] at hv
  by_cases hm:s ∈ R.map (·.dst)
  ·obtain ⟨q,hq,rfl⟩:=List.mem_map.1 hm;obtain ⟨j,hj⟩:=List.mem_iff_getElem?.1 hq;rw [find_rev R σ.slots q.dst j q hRnd hj rfl] at hv
   have hnd':(R.reverse.map (·.dst)).Nodup:=by rw [List.map_reverse];exact It hRnd
   have hr':q ∈ R.reverse:=List.mem_reverse.2 hq;obtain ⟨j',hj'⟩:=List.mem_iff_getElem?.1 hr';have:=find_rev R.reverse σ.slots q.dst j' q hnd' hj' rfl;rw [← List.map_reverse,List.reverse_reverse] at this;rw [this];exact hv
  rw [find_rev_none R _ s hm] at hv
  have hm':s ∉ R.reverse.map (·.dst):=by rw [List.map_reverse,List.mem_reverse];exact hm
  have:=find_rev_none R.reverse σ.slots s hm';rw [← List.map_reverse,List.reverse_reverse] at this;rw [this];exact hv
 intro k o hk;simp only [St.wr,FP,A8] at hk ⊢
 split at hk
 ·rename_i e;rw [if_pos e];exact hk
 rename_i e
 rw [if_neg e];rw [ho] at hk;rw [AZ]
 cases hf:Al (R.flatMap (·.new)) k with
 |none=>simpa using hk
 |some u =>
  exfalso
  obtain ⟨j,q,k1,k2⟩:=find_flat R k u hf;rw [hnew q (List.mem_of_getElem? k1)] at k2
  simp [Al] at k2
theorem P7 {P:Program} {s:List (Nat × AV)} {b:List (Nat × Obj)} {n t e:Nat} {Q:Exit→St→Prop} {id:Nat} {l:List Oper} (T:List (List Bool)) (K:Nat)
 (h:∀ Kt:St→Prop,(∀ σ',Q .normal σ'→Kt σ')→DM P l T (n+4 * K) (NP P l T (n+4 * K) Kt) l K 0 ⟨s,b,n,t,e⟩ []) (hm:P.follows .mixedOrders=true:=by exact rfl) (hok:Gz l T ⟨s,b,n,t,e⟩ K=true:=by exact rfl) (hch:E5 l T K=true:=by exact rfl) (hTl:Nat.ble K T.length=true:=by exact rfl) (hkb:FE n b=true:=by exact rfl):Ev P (.region id ⟨l⟩ true) ⟨s,b,n,t,e⟩ Q:=by
 have hok':=hok;simp only [Gz,Bool.and_eq_true,decide_eq_true_eq,List.all_eq_true] at hok';obtain ⟨⟨_,hKl⟩,⟨_,hnd⟩,_⟩:=hok';refine MO T K hm hok (CG hTl) fun Kt hKt=>?_;have:=TG (σ:=⟨s,b,n,t,e⟩) hch hnd (CG hTl) (Nat.le_of_lt (Nat.le_of_ble_eq_true hKl)) hkb (SF hnd) (h Kt hKt) [] (by simp) rfl rfl (by simp) rfl rfl rfl rfl (by simp) rfl (by simp)
 simpa using this
section rules
variable {P:Program} {s:List (Nat × AV)} {b:List (Nat × Obj)} {n t e nx i:Nat} {l rest:List Oper} {T:List (List Bool)} {Q:St→Prop} {ty:Nat} {pos:String} {aft:Array Edge} {x y:Operand}
theorem XP {st r ri rj c:Nat} {ob:Obj} {u:AV} {row cs:List AV} (row':List AV) (cl':Bool) (bs:List Bool) (b' b2:List (Nat × Obj)) (hin:(P.info? st).isSome=true) (hcl:P.cellsOf st=c) (hx:AJ s x=some (.adr r ri rj):=by exact rfl) (hy:AJ s y=some u:=by exact rfl) (ho:Al b r=some ob:=by exact rfl) (hb:Ct b r=b':=by exact rfl) (hfr:FreeL P (AU ⟨l⟩) s ⟨s,b',n,t,e⟩ bs l) (hrow:ob.rows[ri]?= some row:=by exact rfl) (hc:cellsAV u=some cs:=by exact rfl)
 (hchk:(Nat.ble (rj+cs.length) row.length && Nat.beq cs.length c)=true:=by exact rfl) (hsp:splice row rj cs=row':=by exact rfl) (hcl':(ob.cl && closedL cs)=cl':=by exact rfl) (hok:([x,y].all (LJ (dstsL (l.take i)) ((T[i]?).getD [])))=true:=by exact rfl) (hfc:Ks l T i=true:=by exact rfl)
 (hbs:(List.range i).map (DO T i)=bs:=by exact rfl) (hb2:(r,{ ob with rows:=ob.rows.set ri row',cl:=cl' }) :: b'=b2:=by exact rfl)
 (h:SeqL P ⟨l⟩ rest ⟨s,b2,nx,t,e⟩ Q):DM P l T nx (NP P l T nx Q) (⟨none, .store st x y,ty,pos,aft,none⟩ :: rest) 0 i ⟨s,b,n,t,e⟩ []:=by
 subst hcl hsp hcl' hb hbs hb2;refine .stop ⟨_,rest,st,x,y,r,ri,rj,ob,u,row,cs,rfl,rfl,rfl,rfl,rfl,Option.isSome_iff_exists.1 hin,hok,AB hx,AB hy,ho,hrow,hc,hchk,hfc,hfr,?_⟩;refine SeqL.weaken (σ':=⟨s,(r,{ ob with rows:=ob.rows.set ri (splice row rj cs),cl:=ob.cl && closedL cs }) :: Ct b r,nx,t,e⟩) (Wk.sub (fun _ _ h=>h) (fun k o hk=>?_) (Nat.le_refl _) rfl rfl) h;simp only [A8] at hk ⊢
 split at hk
 ·rename_i e;rw [if_pos e];exact hk
 rename_i e
 rw [if_neg e];rw [Cj,if_neg e] at hk;exact hk
end rules
section rules2
variable {P:Program} {s:List (Nat × AV)} {b:List (Nat × Obj)} {n t e:Nat} {Q:Exit→St→Prop}
theorem XJ {id:Nat} {l:List Oper} {y:Code} (T:List (List Bool)) (K:Nat) (h:∀ Kt:St→Prop,(∀ σ',Ev P y σ' Q→Kt σ')→DM P l T (n+4 * K) (NP P l T (n+4 * K) Kt) l K 0 ⟨s,b,n,t,e⟩ []) (hm:P.follows .mixedOrders=true:=by exact rfl) (hok:Gz l T ⟨s,b,n,t,e⟩ K=true:=by exact rfl)
 (hch:E5 l T K=true:=by exact rfl) (hTl:Nat.ble K T.length=true:=by exact rfl) (hkb:FE n b=true:=by exact rfl):Ev P (.seq (.region id ⟨l⟩ true) y) ⟨s,b,n,t,e⟩ Q:=Aj (P7 T K (fun Kt hK=>h Kt fun σ' h'=>hK σ' h') hm hok hch hTl hkb)
end rules2
def Ji {T:Type} (f:T→List AV) (el c base:Nat) (nx:Nat→List T) (n:Nat):List (Nat × Obj):=(List.range n).map fun i=>(base+i,⟨true,el,c,(nx i).map f,true⟩)
def DC {T:Type} (base:Nat) (nx:Nat→List T) (n:Nat):List (List AV):=(List.range n).map fun i=>[.als (base+i) 0 (nx i).length]
def Jy {T:Type} (nx:Nat→List T) (i:Nat) (l:List T):Nat→List T:=fun j=>if j=i then l else nx j
section
variable {T:Type} {f:T→List AV} {el c base:Nat} {nx:Nat→List T}
theorem KY {n r:Nat}:Al (Ji f el c base nx n) r=if base≤r∧r < base+n then some ⟨true,el,c,(nx (r - base)).map f,true⟩ else none:=by
 unfold Ji
 induction n with
 |zero=>rw [if_neg (by omega)];rfl
 |succ n ih =>
  rw [List.range_succ,List.map_append,AZ,ih]
  by_cases h:base≤r∧r < base+n
  ·rw [if_pos h,if_pos (by omega)];rfl
  rw [if_neg h];simp only [Option.none_or,List.map_cons,List.map_nil,A8]
  by_cases e:base+n=r
  ·subst e;rw [if_pos rfl,if_pos (by omega),show base+n - base=n by omega]
  rw [if_neg e,if_neg (by omega)];rfl
theorem HO {n i:Nat} (h:i < n):Al (Ji f el c base nx n) (base+i)=some ⟨true,el,c,(nx i).map f,true⟩:=by
 rw [KY,if_pos (by omega),show base+i - base=i by omega]
theorem IN {n i:Nat} (h:i < n):(DC base nx n)[i]?= some [.als (base+i) 0 (nx i).length]:=by simp [DC,h]
theorem Uc {n:Nat}:(DC base nx n).length=n:=by simp [DC]
theorem FVr.point {E E':Env} {sz:Nat}:∀ (rows rows':List (List AV)) (xs:List Value),rows.length=rows'.length→(∀ (i:Nat) (row row':List AV),rows[i]?= some row→rows'[i]?= some row'→row'.length=row.length∧∀ xs,FVc E row xs→FVc E' row' xs)→FVr E sz rows xs→FVr E' sz rows' xs
 |[],[],xs,_,_,h=>by simpa [FVr] using h
 |row :: rows,row' :: rows',xs,hl,hp,h=>by
  simp only [FVr] at h ⊢;obtain ⟨ys,zs,e1,e2,e3,e4⟩:=h;obtain ⟨p1,p2⟩:=hp 0 row row' rfl rfl;exact ⟨ys,zs,e1,p1.trans e2,p2 _ e3,FVr.point rows rows' zs (by simpa using hl) (fun i r r' h1 h2=>hp (i+1) r r' (by simpa using h1) (by simpa using h2)) e4⟩
 |[],_ :: _,_,hl,_,_=>by simp at hl
 |_ :: _,[],_,hl,_,_=>by simp at hl
theorem LV {ρ:Nat→Option Nat}:∀ (rows rows':List (List AV)),rows.length=rows'.length→(∀ (i:Nat) (row row':List AV),rows[i]?= some row→rows'[i]?= some row'→Ef ρ row=some row')→G3 ρ rows=some rows'
 |[],[],_,_=>rfl
 |row :: rows,row' :: rows',hl,hp=>by
  simp only [G3];rw [hp 0 row row' rfl rfl,LV rows rows' (by simpa using hl) (fun i r r' h1 h2=>hp (i+1) r r' (by simpa using h1) (by simpa using h2))]
 |[],_ :: _,hl,_=>by simp at hl
 |_ :: _,[],hl,_=>by simp at hl
theorem Wk.renF {σ σ':St} (g:Nat→Option Nat) (k:Nat→Nat) (hs:Cv g σ σ'.slots) (ho:∀ r o,Al σ'.objs r=some o→g (k r)=some r∧∃ o1,Al σ.objs (k r)=some o1∧Cz g o1=some o) (hg:∀ r r',g r=some r'→k r'=r∧r' < σ'.next) (ht:σ'.nt=σ.nt) (he:σ'.env=σ.env)
 (hk:∀ i,i < σ.env→g i=some i):Wk σ σ':=by
 intro C E X a hr
 let E'':Env:={ w:=E.w,H:=fun r'=>E.H (k r'),Z:=fun r'=>E.Z (k r'),D:=fun r'=>g (k r')=some r'∧E.D (k r'),S:=E.S }
 have hren:E.ren g E'':=by
  refine ⟨fun b hb=>⟨hb,rfl⟩,fun r r' hD hp=>?_⟩;have h1:=(hg r r' hp).1;exact ⟨⟨by rw [h1];exact hp,by rw [h1];exact hD⟩,by simp [E'',h1],by simp [E'',h1]⟩
 refine ⟨E'',fun r'=>X (k r'),rfl,⟨?_,hr.size.trans ht.symm,hr.defers,?_,?_,?_,?_,hr.kept,?_,?_,?_,hr.base,hr.grow,hr.envk.trans he.symm,hr.glob⟩⟩
 ·intro s v hv;exact FV.ren hren (FO hs s v hv) (hr.ev (.tmp s))
 ·intro r o hro;obtain ⟨h0,o1,h1,h2⟩:=ho r o hro;obtain ⟨g1,g2,g3,g4⟩:=hr.objs (k r) o1 h1;exact ⟨⟨h0,g1⟩,by simp [E'',g2,(CS h2).2.2.1],g3.ren h2,FVr.renObj h2 hren g4⟩
 ·intro r r' o o' b hro hro' hb hb';obtain ⟨h0,o1,h1,_⟩:=ho r o hro;obtain ⟨h0',o1',h1',_⟩:=ho r' o' hro';have:=hr.apart (k r) (k r') o1 o1' b h1 h1' hb hb';rw [this,h0'] at h0
  simpa using h0.symm
 ·intro b hb;obtain ⟨h1,h2⟩:=hr.stay b hb;refine ⟨h1,fun r o hro e=>?_⟩;obtain ⟨_,o1,h3,_⟩:=ho r o hro;exact h2 (k r) o1 h3 e
 ·rintro r ⟨h0,_⟩;exact (hg _ _ h0).2
 ·intro r o b hro hb;obtain ⟨_,o1,h3,_⟩:=ho r o hro;exact hr.mine (k r) o1 b h3 hb
 ·intro r hkr;have h0:=hk r (by rw [← hr.envk];exact hkr);simp only [E'',(hg r r h0).1];exact hr.env r hkr
 intro r hkr;have h0:=hk r (by rw [← hr.envk];exact hkr);exact ⟨by rw [(hg r r h0).1];exact h0,by rw [(hg r r h0).1];exact hr.envD r hkr⟩
variable {s:List (Nat × AV)} {b:List (Nat × Obj)} {t e:Nat}
theorem Wk.famNil {ty q m n N:Nat} (f:T→List AV) (el c base:Nat) (b':List (Nat × Obj)) (ho:Al b q=some ⟨true,ty,1,List.replicate n [.lit (.slice none 0 0)],true⟩) (hm:m≤base) (hN:base+n≤N) (hb:(q,(⟨true,ty,1,DC base (fun _=>([]:List T)) n,false⟩:Obj)) :: (Ct b q ++ Ji f el c base (fun _=>[]) n)=b') :
 Wk ⟨s,b,m,t,e⟩ ⟨s,b',N,t,e⟩:=by
 subst hb;intro C E X a hr;have hlt:∀ r,E.D r→r < base:=fun r hD=>Nat.lt_of_lt_of_le (hr.fresh r hD) hm
 let inF:Nat→Prop:=fun r=>base≤r∧r < base+n
 let E':Env:={ w:=E.w,H:=fun r=>if base≤r∧r < base+n then .slice none 0 0 else E.H r,Z:=fun r=>if base≤r∧r < base+n then c else E.Z r,D:=fun r=>E.D r∨(base≤r∧r < base+n),S:=E.S }
 have hH:∀ r,¬ (base≤r∧r < base+n)→E'.H r=E.H r:=fun r h=>if_neg h;have hHf:∀ r,(base≤r∧r < base+n)→E'.H r= .slice none 0 0:=fun r h=>if_pos h;have hle:E.le E':=⟨fun b hb=>⟨hb,rfl⟩,fun r hD=>⟨.inl hD,if_neg (by have:=hlt r hD;omega),if_neg (by have:=hlt r hD;omega)⟩⟩
 have hold:∀ r o,Al b r=some o→¬ (base≤r∧r < base+n):=fun r o h=>by have:=hlt r (hr.objs r o h).1;omega
 have hcase:∀ r o,Al ((q,(⟨true,ty,1,DC base (fun _=>([]:List T)) n,false⟩:Obj)) :: (Ct b q ++ Ji f el c base (fun _=>[]) n)) r=some o →
  (r=q∧o=⟨true,ty,1,DC base (fun _=>([]:List T)) n,false⟩)∨(Al b r=some o)∨((base≤r∧r < base+n)∧o=⟨true,el,c,[],true⟩):=by
  intro r o hf;rw [A8] at hf
  split at hf
  ·rename_i e1;simp only [Option.some.injEq] at hf;exact .inl ⟨e1.symm,hf.symm⟩
  ·rename_i e1
   rw [AZ,Cj,if_neg e1,KY] at hf
   cases h1:Al b r with
   |some o1=>rw [h1] at hf;simp only [Option.some_or,Option.some.injEq] at hf;exact .inr (.inl (by rw [hf]))
   |none =>
    rw [h1,Option.none_or] at hf
    split at hf
    ·rename_i e2;simp only [Option.some.injEq] at hf;exact .inr (.inr ⟨e2,hf.symm⟩)
    ·cases hf
 have hblk:∀ r o k,Al ((q,(⟨true,ty,1,DC base (fun _=>([]:List T)) n,false⟩:Obj)) :: (Ct b q ++ Ji f el c base (fun _=>[]) n)) r=some o→blockOf (E'.H r)=some k→∃ o',Al b r=some o'∧blockOf (E.H r)=some k:=by
  intro r o k hf hb
  rcases hcase r o hf with ⟨rfl,_⟩ | h | ⟨h,_⟩
  ·rw [hH _ (hold _ _ ho)] at hb;exact ⟨_,ho,hb⟩
  ·rw [hH _ (hold _ _ h)] at hb;exact ⟨_,h,hb⟩
  rw [hHf _ h] at hb;simp [blockOf,baseOf] at hb
 refine ⟨E',fun r=>if base≤r∧r < base+n then [] else X r,rfl,⟨fun s' v hv=>FV.le _ hle _ (hr.slots s' v hv),hr.size,hr.defers,?_,?_,?_,?_,hr.kept,?_,?_,?_,hr.base,hr.grow,hr.envk,hr.glob⟩⟩
 ·intro r o hf
  rcases hcase r o hf with ⟨rfl,rfl⟩ | h | ⟨h,rfl⟩
  ·obtain ⟨k1,k2,k3,k4⟩:=hr.objs r _ ho;have hn:=hold _ _ ho;refine ⟨.inl k1,by rw [← k2];exact if_neg hn,?_,?_⟩
   ·rw [hH _ hn,if_neg hn]
    unfold ObjOK at k3 ⊢
    simp only [List.length_replicate,DC,List.length_map,List.length_range] at k3 ⊢
    rcases k3 with ⟨a1,a2,a3⟩ | a1 | a1
    ·refine .inl ⟨a1,?_,a3⟩
     have hn0:n=0:=by cases n with | zero=>rfl | succ n=>cases a2
     subst hn0;rfl
    ·exact .inr (.inl a1)
    exact .inr (.inr a1)
   rw [if_neg hn];have k5:FVr E.clear 1 (List.replicate n [.lit (.slice none 0 0)]) (X r):=k4;refine FVr.point (E:=E) _ _ _ (by simp [DC]) (fun i row row' h1 h2=>?_) (FVr.le _ _ E.clear_le _ k5)
   have hi:i < n:=by have:=(List.getElem?_eq_some_iff.1 h1).1;simpa using this
   rw [IN hi] at h2;simp only [Option.some.injEq] at h2;subst h2
   have e1:row=[.lit (.slice none 0 0)]:=by
    rw [List.getElem?_replicate,if_pos hi] at h1
    simpa using h1.symm
   subst e1;refine ⟨rfl,fun xs hx=>?_⟩;simp only [FVc] at hx ⊢;obtain ⟨y,ys,e1,e2,e3,e4⟩:=hx;refine ⟨y,ys,e1,e2,?_,e4⟩;simp only [FV] at e3 ⊢;subst e3;refine ⟨.inr ⟨by omega,by omega⟩,?_⟩
   show Qi (E'.H (base+i)) (E'.Z (base+i)) 0 0 _
   rw [hHf (base+i) ⟨by omega,by omega⟩];exact ⟨none,0,0,none,0,rfl,rfl,Nat.le_refl _,fun _=>⟨rfl,rfl⟩,fun h=>absurd h (by simp)⟩
  ·obtain ⟨k1,k2,k3,k4⟩:=hr.objs r _ h;have hn:=hold _ _ h;refine ⟨.inl k1,by rw [← k2];exact if_neg hn,?_,?_⟩
   ·rw [hH _ hn,if_neg hn];exact k3
   rw [if_neg hn];exact FVr.le _ _ (hle.by _) _ k4
  refine ⟨.inr h,if_pos h,?_,?_⟩
  ·rw [hHf _ h,if_pos h];exact .inl ⟨rfl,rfl,rfl⟩
  rw [if_pos h];simp [FVr]
 ·intro r1 r2 o1 o2 k h1 h2 hb1 hb2;obtain ⟨p1,q1,z1⟩:=hblk r1 o1 k h1 hb1;obtain ⟨p2,q2,z2⟩:=hblk r2 o2 k h2 hb2;exact hr.apart r1 r2 p1 p2 k q1 q2 z1 z2
 ·intro k hk;refine ⟨(hr.stay k hk).1,fun r o hf hb=>?_⟩;obtain ⟨p1,q1,z1⟩:=hblk r o k hf hb;exact (hr.stay k hk).2 r p1 q1 z1
 ·rintro r (h | h)
  ·have:=hlt r h;show r < N;omega
  show r < N;omega
 ·intro r o k hf hb;obtain ⟨p1,q1,z1⟩:=hblk r o k hf hb;exact hr.mine r p1 k q1 z1
 ·intro r hkr
  have hn:¬ (base≤r∧r < base+n):=by have:=hlt r (hr.envD r hkr);omega
  exact ⟨(hH r hn).trans (hr.env r hkr).1,(if_neg hn).trans (hr.env r hkr).2⟩
 intro r hkr;exact .inl (hr.envD r hkr)
theorem Wk.famPut {ty q m n N r' i:Nat} {l:List T} {b1 b':List (Nat × Obj)} {s':List (Nat × AV)} (hq:Al b q=some ⟨true,ty,1,(DC base nx n).set i [.als r' 0 l.length],false⟩) (hr':Al b r'=some ⟨true,el,c,l.map f,true⟩) (hi:i < n) (hfam:∀ j,j < n→j≠i→Al b (base+j)=some ⟨true,el,c,(nx j).map f,true⟩)
 (h1:∀ r o,Al b1 r=some o→Al b r=some o∧o.cl=true∧r < base) (hqb:q < base) (hrb:base+n≤r') (hN:base+n≤N) (he:e≤base) (hs:Cv (fun r=>if r=r' then some (base+i) else if r < base then some r else if r=base+i then none else if r < base+n then some r else none) ⟨s,b,m,t,e⟩ s')
 (hb:(q,(⟨true,ty,1,DC base (Jy nx i l) n,false⟩:Obj)) :: (b1 ++ Ji f el c base (Jy nx i l) n)=b'):Wk ⟨s,b,m,t,e⟩ ⟨s',b',N,t,e⟩:=by
 subst hb;refine Wk.renF _ (fun r=>if r=base+i then r' else r) hs (fun r o hf=>?_) (fun r r1 hg=>?_) rfl rfl (fun j hj=>?_)
 ·dsimp only at hf ⊢
  rw [A8] at hf
  split at hf
  ·rename_i e1
   simp only [Option.some.injEq] at hf;subst e1 hf;rw [if_neg (show ¬ q=base+i by omega)];refine ⟨by rw [if_neg (by omega),if_pos hqb],_,hq,?_⟩
   unfold Cz
   rw [LV _ (DC base (Jy nx i l) n) (by simp [DC]) (fun j row row' e1 e2=>?_)]
   ·rfl
   have hj:j < n:=by have:=(List.getElem?_eq_some_iff.1 e2).1;simpa [DC] using this
   rw [IN hj] at e2;simp only [Option.some.injEq] at e2;subst e2;rw [List.getElem?_set] at e1
   by_cases e:i=j
   ·subst e;rw [if_pos rfl,if_pos (by rw [Uc];exact hi)] at e1;simp only [Option.some.injEq] at e1;subst e1
    simp [Ef,BX,Jy]
   rw [if_neg e,IN hj] at e1;simp only [Option.some.injEq] at e1;subst e1;have e':¬ j=i:=fun h=>e h.symm;simp only [Ef,BX,Jy,if_neg e'];rw [if_neg (by omega),if_neg (by omega),if_neg (by omega),if_pos (by omega)];rfl
  rename_i e1
  rw [AZ] at hf
  cases h2:Al b1 r with
  |some o1 =>
   rw [h2] at hf;simp only [Option.some_or,Option.some.injEq] at hf;subst hf;obtain ⟨p1,p2,p3⟩:=h1 r _ h2;rw [if_neg (show ¬ r=base+i by omega)];refine ⟨by rw [if_neg (by omega),if_pos p3],_,p1,?_⟩
   unfold Cz
   rw [p2]
  |none =>
   rw [h2,Option.none_or,KY] at hf
   split at hf
   ·rename_i e2
    simp only [Option.some.injEq] at hf;subst hf
    by_cases e3:r=base+i
    ·subst e3;rw [if_pos rfl,if_pos rfl,show base+i - base=i by omega];refine ⟨rfl,_,hr',?_⟩
     simp [Cz,Jy]
    rw [if_neg e3,if_neg (by omega),if_neg (by omega),if_neg e3,if_pos e2.2];have h3:=hfam (r - base) (by omega) (by omega);rw [show base+(r - base)=r by omega] at h3;refine ⟨rfl,_,h3,?_⟩
    have e4:¬ r - base=i:=by omega
    simp [Cz,Jy,e4]
   cases hf
 ·dsimp only at hg ⊢
  split at hg
  ·rename_i e1
   simp only [Option.some.injEq] at hg;subst hg;rw [if_pos rfl];exact ⟨e1.symm,by omega⟩
  split at hg
  ·simp only [Option.some.injEq] at hg;subst hg;rw [if_neg (by omega)];exact ⟨rfl,by omega⟩
  split at hg
  ·cases hg
  split at hg
  ·simp only [Option.some.injEq] at hg;subst hg;rw [if_neg (by assumption)];exact ⟨rfl,by omega⟩
  cases hg
 have:j < e:=hj;rw [if_neg (by omega),if_pos (by omega)]
theorem Wk.famFrz {ty q m n:Nat} {b1 b':List (Nat × Obj)} (fs:List T→List AV) (hfs:∀ l,fs l=[.sh c (l.map f)]) (hq:Al b q=some ⟨true,ty,1,DC base nx n,false⟩) (hfam:∀ j,j < n→Al b (base+j)=some ⟨true,el,c,(nx j).map f,true⟩)
 (h1:∀ r o,Al b1 r=some o→Al b r=some o∧r < base∧r≠q) (hqb:q < base) (hb:(q,(⟨true,ty,1,((List.range n).map nx).map fs,true⟩:Obj)) :: b1=b'):Wk ⟨s,b,m,t,e⟩ ⟨s,b',m,t,e⟩:=by
 subst hb;intro C E X a hr
 let E':Env:={ E with S:=fun k=>E.S k∨∃ j,j < n∧blockOf (E.H (base+j))=some k }
 have hle':E.le E':=⟨fun b hb=>⟨.inl hb,rfl⟩,fun r hD=>⟨hD,rfl,rfl⟩⟩
 have hd2:∀ r' o',Al ((q,(⟨true,ty,1,((List.range n).map nx).map fs,true⟩:Obj)) :: b1) r'=some o'→∃ o2,Al b r'=some o2∧r' < base:=by
  intro r' o' hf;rw [A8] at hf
  split at hf
  ·rename_i e1;subst e1;exact ⟨_,hq,hqb⟩
  exact ⟨_,(h1 r' o' hf).1,(h1 r' o' hf).2.1⟩
 refine ⟨E',X,rfl,⟨fun s' v hv=>FV.le _ hle' _ (hr.slots s' v hv),hr.size,hr.defers,?_,?_,?_,hr.fresh,hr.kept,?_,hr.env,hr.envD,?_,?_,hr.envk,hr.glob.le hle'⟩⟩
 ·intro r' o' hf;rw [A8] at hf
  split at hf
  ·rename_i e1
   subst e1;simp only [Option.some.injEq] at hf;subst hf;obtain ⟨k1,k2,k3,k4⟩:=hr.objs q _ hq;refine ⟨k1,k2,?_,?_⟩
   ·unfold ObjOK at k3 ⊢
    simp only [DC,List.length_map,List.length_range] at k3 ⊢
    rcases k3 with ⟨a1,a2,a3⟩ | a1 | a1
    ·refine .inl ⟨a1,?_,a3⟩
     have hn0:n=0:=by cases n with | zero=>rfl | succ n=>simp [List.range_succ] at a2
     subst hn0;rfl
    ·exact .inr (.inl a1)
    exact .inr (.inr a1)
   have k5:FVr E 1 (DC base nx n) (X q):=k4;refine FVr.point (E:=E) _ _ _ (by simp [DC]) (fun i row row' e1 e2=>?_) k5
   have hi:i < n:=by have:=(List.getElem?_eq_some_iff.1 e1).1;simpa [DC] using this
   rw [IN hi] at e1;simp only [List.getElem?_map,List.getElem?_range hi,Option.map_some,Option.some.injEq] at e1 e2;subst e1 e2;rw [hfs];refine ⟨rfl,fun xs hx=>?_⟩;simp only [FVc] at hx ⊢;obtain ⟨y,ys,e1,e2,e3,e4⟩:=hx;refine ⟨y,ys,e1,e2,?_,e4⟩;obtain ⟨g1,g2,g3,g4⟩:=hr.objs (base+i) _ (hfam i hi);simp only [FV] at e3;obtain ⟨_,A0,n0,c0,A,c1,hH,hxe,hnc,hz,hA⟩:=e3;have g4':FVr E.clear c ((nx i).map f) (X (base+i)):=g4;simp only [FV];refine ⟨A,c1,X (base+i),by rw [List.length_map];exact hxe,by rw [List.length_map];exact hnc,FVr.le _ _ hle'.clear _ g4',fun hne=>?_⟩
   have hpos:0 < (nx i).length:=by
    rcases Nat.eq_zero_or_pos (nx i).length with h0 | h0
    ·rw [List.eq_nil_of_length_eq_zero h0] at hne;simp at hne
    exact h0
   obtain ⟨a0,rfl,hsp,rfl⟩:=hA hpos;obtain ⟨_,hh⟩:=g3.holds (a0:=a0) (by rw [hH];rfl);refine ⟨_,rfl,Dp _ hsp _,?_,?_⟩
   ·rw [Dm];exact .inr ⟨i,hi,by rw [hH];rfl⟩
   rw [Nat.zero_mul,Addr.add_zero'];exact hh
  obtain ⟨hf,hlt,hne⟩:=h1 r' o' hf;obtain ⟨k1,k2,k3,k4⟩:=hr.objs r' o' hf;exact ⟨k1,k2,k3,FVr.le _ _ (hle'.by _) _ k4⟩
 ·intro r1 r2 o1 o2 k h1 h2 hb1 hb2;obtain ⟨p1,q1,_⟩:=hd2 r1 o1 h1;obtain ⟨p2,q2,_⟩:=hd2 r2 o2 h2;exact hr.apart r1 r2 p1 p2 k q1 q2 hb1 hb2
 ·rintro k (hb | ⟨j,hj,hb⟩)
  ·exact ⟨(hr.stay k hb).1,fun r' o' hf=>by
    obtain ⟨p1,q1,_⟩:=hd2 r' o' hf
    exact (hr.stay k hb).2 r' p1 q1⟩
  refine ⟨(hr.objs _ _ (hfam j hj)).2.2.1.lt hb,fun r' o' hf hbk=>?_⟩;obtain ⟨p1,q1,hlt⟩:=hd2 r' o' hf;have:=hr.apart r' (base+j) p1 _ k q1 (hfam j hj) hbk hb;omega
 ·intro r' o' k hf hbk;obtain ⟨p1,q1,_⟩:=hd2 r' o' hf;exact hr.mine r' p1 k q1 hbk
 ·intro k hb;exact .inl (hr.base k hb)
 rintro k (hb | ⟨j,hj,hb⟩)
 ·exact hr.grow k hb
 rcases hr.mine _ _ k (hfam j hj) hb with h | h
 ·exact .inr (.inr h)
 exact .inr (.inl h)
def MH (s:List (Nat × AV)):List (Nat × AV)→Prop
 |[]=>True
 |p :: l=>Al s p.1=some p.2∧MH s l
theorem Kh {s:List (Nat × AV)}:∀ {l:List (Nat × AV)},MH s l→∀ k v,Al l k=some v→Al s k=some v
 |[],_,k,v,h=>by simp [Al] at h
 |(q,u) :: l,h,k,v,hv=>by
  rw [A8] at hv
  split at hv
  ·rename_i e0
   simp only [Option.some.injEq] at hv;subst e0 hv;exact h.1
  ·exact Kh h.2 k v hv
theorem Wk.slots {s s':List (Nat × AV)} {m:Nat} (h:MH s s'):Wk ⟨s,b,m,t,e⟩ ⟨s',b,m,t,e⟩:=Wk.sub (fun k v hv=>Kh h k v hv) (fun _ _ h=>h) (Nat.le_refl _) rfl rfl
theorem Gg {α:Type} {k r:Nat} {v:α} {l:List (Nat × α)} (h:k≠r):Ct ((k,v) :: l) r=(k,v) :: Ct l r:=by rw [Ua,if_neg h]
theorem TH {P:Program} {Q:Exit→St→Prop} {s kept:List (Nat × AV)} {b:List (Nat × Obj)} {m:Nat} {c:Code} {ι:Type} (U:ι→List (Nat × AV)) (O:ι→List (Nat × Obj)) (μ:ι→Nat) (x0:ι) (hs:s=U x0 ++ kept) (ho:b=O x0)
 (round:∀ x (R:Exit→St→Prop),(∀ e' σ',FH (fun x=>⟨U x ++ kept,O x,m,t,e⟩) μ x Q e' σ'→R e' σ')→Ev P c ⟨U x ++ kept,O x,m,t,e⟩ R):Ev P (.loop c) ⟨s,b,m,t,e⟩ Q:=by
 subst hs ho;exact Ml (fun x=>⟨U x ++ kept,O x,m,t,e⟩) μ x0 (Wk.refl _) fun x=>round x _ fun _ _ h=>h
variable {P:Program} {n:Nat}
theorem UF {st el len:Nat} {x y:Operand} {k:IntKind} {i:Int} {v u:AV} {d:Option Nat} {ty:Nat} {pos:String} {aft:Array Edge} {g:Option (Nat × Bool)} (har:E7 P st=some (len,el)) (hz:P.cellsOf el≠0) (hx:AJ s x=some v) (hy:AJ s y=some (.lit (.int k i))) (h0:0≤i∧i < len) (hu:Gu (i.toNat * P.cellsOf el) v=some u):PureW P ⟨s,b,n,t,e⟩ ⟨d, .indexAddr st x y,ty,pos,aft,g⟩ u:=by
 intro C E X a hr;have hv:=hr.ev x;rw [AB hx] at hv;have hi:=hr.ev y;rw [AB hy] at hi;simp only [FV] at hi
 have ht:P.underlying st=some (.array len el):=by
  unfold E7 at har
  split at har
  ·simp only [Option.some.injEq,Prod.mk.injEq] at har;obtain ⟨rfl,rfl⟩:=har
   assumption
  cases har
 cases hin:P.info? el with
 |none=>simp [Program.cellsOf,hin] at hz
 |some inf =>
  rw [B8 hin] at hu hz;obtain ⟨ad,hxe,hfv⟩:=FV.shift hu hv;refine ⟨_,hfv,fun w=>?_⟩
  unfold execOp
  simp only [Instr.indexAt,hi,asIntOf,hxe,Instr.sureAddr,Sem.run_bind,Sem.run_pure,Result.andThen_ok,run_underlying ht,h0,and_self,if_true,Cl hin]
theorem QF {l:List Oper} {i m d ty st el len c:Nat} {L:Array Bool} {Q:St→Prop} {x y:Operand} {k:IntKind} {j:Int} {v u:AV} {pos:String} {aft:Array Edge} (har:E7 P st=some (len,el)) (hcl:P.cellsOf el=c) (ho:l[i]?= some ⟨some d, .indexAddr st x y,ty,pos,aft,none⟩) (hx:AJ s x=some v:=by exact rfl) (hy:AJ s y=some (.lit (.int k j)):=by exact rfl) (h0:0≤j∧j < len:=by decide) (hz:c≠0:=by decide) (hu:Gu (j.toNat * c) v=some u:=by exact rfl) (hdn:Nat.blt d t=true:=by exact rfl) (hc:(Region.noSelect ⟨l⟩ && Region.free .any ⟨l⟩ L i && (Region.ready .any ⟨l⟩ L).contains i)=true:=by kernel_rfl) (hd:d≠1000000:=by decide)
 (h:HP P l m (L.setIfInBounds i true) ⟨(d,u) :: s,b,n,t,e⟩ Q):HP P l (m+1) L ⟨s,b,n,t,e⟩ Q:=by
 subst hcl;exact .take ho rfl (Nat.le_of_ble_eq_true hdn) hd rfl hc rfl (IS (UF har hz hx hy h0 hu)) h
theorem Tt {st ty el cc cc' m2:Nat} {i:TypeInfo} {A B:Option Addr} {w:World} (hu:P.underlying st=some (.slice el)) (hi:P.info? el=some i):(Builtin.copy_ #[st,st] ty #[.slice A 0 cc, .slice B m2 cc']).run P w= .ok (goInt 0) w:=by
 have h0:∀ a:Addr,(loadCells a 0).run P w= .ok #[] w:=fun a=>run_loadCells_list (P:=P) (w:=w) a [] (fun k v h=>by simp at h)
 unfold Builtin.copy_
 cases A <;> cases B <;> simp [Sem.run_bind,Sem.run_pure,Result.andThen_ok,run_underlying hu,Cl hi,Builtin.firstCells,Builtin.lenOf,h0,storeCells]
theorem WH {T:Type} {f:T→List AV} {l2:List T} {st el r i m1 d ty:Nat} {pos:String} {aft:Array Edge} {g:Option (Nat × Bool)} {x y:Operand} {ops:Array Oper} {rest:List Oper} {Q:St→Prop} {zs:List AV} (hel:A9 P st=some el) (hze:AK P el=some zs)
 (hx:AJ s x=some (.als r i m1):=by exact rfl) (hy:AJ s y=some (.sh 1 (l2.map f)):=by exact rfl) (h1:m1=0:=by omega)
 (hg:AL (AU ops) ⟨s,b,n,t,e⟩ g=some true:=by exact rfl) (hd:Nat.blt d t=true:=by exact rfl)
 (h:SeqL P ops rest ⟨(d, .lit (.int .i64 0)) :: s,b,n,t,e⟩ Q) :
 SeqL P ops (⟨some d, .call { callee:= .builtin .copy,args:= #[x,y],argTypes:= #[st,st] },ty,pos,aft,g⟩ :: rest) ⟨s,b,n,t,e⟩ Q:=by
 subst h1;refine SeqL.of_run hg fun C E X a hr=>?_;obtain ⟨i0,z,hi,hzz,rfl,_,_⟩:=Ca hze;have hund:=BL hel;have hxv:=hr.ev x;rw [AB hx] at hxv;have hyv:=hr.ev y;rw [AB hy] at hyv;simp only [FV] at hxv hyv;obtain ⟨hD,A0,n0,c0,A,cc,hH,hxe,hnc,_,hA⟩:=hxv;obtain ⟨B,cc',ys,hye,hnc',hfr,hB⟩:=hyv;have hput:=hr.put (some d) (v:= .lit (.int .i64 0)) (y:=goInt 0) (fun d' e'=>by cases e';exact Nat.le_of_ble_eq_true hd) (by simp only [FV];rfl);refine ⟨_,_,X,_,?_,hput,h⟩
 unfold execOp
 simp only [resolve,invoke,builtin,Sem.run_bind,Sem.run_pure,Result.andThen_ok,List.map_toArray,List.map_cons,List.map_nil,hxe,hye,Tt hund hi]
end
section
variable {P:Program} {s:List (Nat × AV)} {b:List (Nat × Obj)} {n t e:Nat} {ops:Array Oper} {rest:List Oper} {Q:St→Prop} {d ty:Nat} {pos':String} {aft:Array Edge} {g:Option (Nat × Bool)} {x:Operand} {Post:AV→List (Nat × Obj)→Prop}
theorem GH {ι:Type} {Φ:ι→Prop} {as_:Array Operand} {ts:Array TypeId} {f:FuncId} {first caps:List AV} {vs:List AV} {objs:List (Nat × Obj)} {vf vf':ι→AV} {lf newf bf:ι→List (Nat × Obj)} (rs:List Nat) (n':Nat)
 (hc:calleeOf (St.ev ⟨s,b,n,t,e⟩ x)=some (f,first,caps):=by exact rfl) (hv:EC ⟨s,b,n,t,e⟩ rs (first ++ (as_.toList.map (St.ev ⟨s,b,n,t,e⟩) ++ caps))=some vs:=by exact rfl)
 (hob:BG ⟨s,b,n,t,e⟩ (pos rs 0) 0 rs=some objs) (hF:FunR P f vs objs rs.length (fun v l=>∃ i,Φ i∧v=vf i∧l=lf i)) (hl:∀ i,BX (CD rs n) (vf i)=some (vf' i):=by intro _;exact rfl) (hn:∀ i,Ea rs n (lf i)=some (newf i):=by intro _;exact rfl)
 (hn':∀ i,(∀ r ob,Al (newf i) r=some ob→r < n')∧n≤n') (hb:∀ i,newf i ++ FB rs b=bf i:=by intro _;exact rfl)
 (hT:ED rs (first ++ (as_.toList.map (St.ev ⟨s,b,n,t,e⟩) ++ caps))=true:=by exact rfl) (hnd:rs.Nodup:=by decide) (hg:AL (AU ops) ⟨s,b,n,t,e⟩ g=some true:=by exact rfl) (hd:Nat.blt d t=true:=by exact rfl) (h:∀ i,Φ i→SeqL P ops rest ⟨(d,vf' i) :: s,bf i,n',t,e⟩ Q) :
 SeqL P ops (⟨some d, .call { callee:= .value x,args:=as_,argTypes:=ts },ty,pos',aft,g⟩ :: rest) ⟨s,b,n,t,e⟩ Q:=by
 refine SeqL.callR rs true hg rfl hc hnd hv hob (fun _=>hT) hF (.inl rfl) (fun d' h'=>by cases h';exact Nat.le_of_ble_eq_true hd) ?_;rintro u l ⟨i,hi,rfl,rfl⟩;have:=h i hi;rw [← hb i] at this;exact ⟨vf' i,newf i,n',hl i,hn i,(hn' i).1,(hn' i).2,this⟩
end
end Go.AM
