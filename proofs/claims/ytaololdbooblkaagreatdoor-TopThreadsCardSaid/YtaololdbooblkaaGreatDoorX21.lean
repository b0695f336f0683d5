/-
  Part 21 of the proof: the abstract machine, proved sound over the model.
  Conditions: none.
-/
import Derived.RecoverIn
import Derived.Test.YtaololdbooblkaaGreatDoorX20
set_option linter.unusedVariables false
set_option linter.unusedSimpArgs false
set_option linter.unusedSectionVars false
namespace Go.AM
def WV (P:Program) (ops:Array Oper) (r:List Oper) (Q:Exit→Act→World→Prop):Exit→Act→World→Prop
 |.normal,a,w=>F7 P ops Q r a w
 |e,a,w=>Q e a w
theorem W0 {P:Program} {ops:Array Oper} {r:List Oper} {Q:Exit→Act→World→Prop} {o:Oper} {a:Act} {w:World} {K K':Act→World→Prop} (hk:∀ a w,K a w→K' a w) (h:o.wp P a w K (WV P ops r Q)):o.wp P a w K' Q:=by
 unfold Oper.wp at *
 generalize (execOp a.eval o).run P w=x at *
 cases x with
 |ok n w' =>
  cases n <;> simp only [Oper.upon] at h ⊢ <;> try exact hk _ _ h
  ·refine h.mono fun e w'' he=>?_
   cases e <;> first | exact hk _ _ he | exact he
  exact h.mono fun _ _ he=>hk _ _ he
 |halt s w'=>cases s <;> simp only [Oper.upon] at h ⊢ <;> exact h
theorem ML {P:Program} {ops:Array Oper} {Q:Exit→Act→World→Prop} {r:List Oper}:∀ (l:List Oper) (a:Act) (w:World),F7 P ops (WV P ops r Q) l a w→F7 P ops Q (l ++ r) a w
 |[],a,w,h=>by rw [Gd] at h;exact h
 |o :: l,a,w,h=>by
  rw [CW] at h;rw [List.cons_append,CW]
  split
  ·rename_i hw
   rw [if_pos hw] at h;exact W0 (fun a w hk=>ML l a w hk) h
  ·rename_i hw
   rw [if_neg hw] at h;exact ML l _ _ h
theorem EvD.deferS {P:Program} {σ:St} {Q:Exit→St→Prop} {id:Nat} {l0:List Oper} {o:Oper} {y:Code} {x:Operand} {f:FuncId} {m:Nat} {ops:Array Oper} (hops:ops.toList=l0 ++ [o])
 (ho:o.op= .defer { callee:= .value x,args:= #[],argTypes:= #[] }) (hg:o.guard=none) (hd:o.dst=none)
 (hH:∀ cap:Array Value,cap.size=m→TQ P { target:= .fn (.func f) cap,args:= #[] })
 (h:∀ K:St→Prop,(∀ σ',(∃ caps:List AV,caps.length=m∧σ'.ev x= .fn (.func f) [] caps∧EvD P y σ' Q)→K σ')→SeqL P ops l0 σ K):EvD P (.seq (.region id ops false) y) σ Q:=by
 intro C E X a hC hr hm;refine wp_seq (KN ?_);rw [hops];refine ML _ _ _ ?_;have hr2:Rel { C.at E σ with dfr:=a.defers } E X σ a:=hr.rebase.dfrAs a.defers;refine h _ (fun σ' h=>h) _ E X a hr2 _ ?_;rintro E' X' σ' a' h3 ⟨caps,hcl,hev,hy⟩
 show F7 P ops _ [o] a' E'.w
 have hwt:Region.wanted o (yielded ops a'.tmps)=true:=by unfold Region.wanted;rw [hg]
 rw [CW,if_pos hwt];have hv:=h3.ev x;rw [hev] at hv;simp only [FV] at hv;obtain ⟨fs,cs,hv1,hv2,hv3⟩:=hv
 have hfs:fs= #[]:=by
  have:=hv2.length
  simpa using this
 subst hfs
 have hcs:cs.size=m:=by rw [← hcl];simpa using hv3.length
 have hrun:(execOp a'.eval o).run P E'.w= .ok (.defer { target:= .fn (.func f) cs,args:= #[] }) E'.w:=by
  unfold execOp
  simp only [ho,resolve,hv1,Deferred.ofValue];rw [show (#[] ++ Array.map a'.eval #[]:Array Value)= #[] by simp];rfl
 unfold Oper.wp
 rw [hrun,Oper.upon_defer,Gd,hd];have hde:a'.defers=a.defers:=h3.defers
 have h5:Rel (C.at E σ) E' X' σ' { a' with defers:=[] }:=by
  have:=h3.dfrAs [];have e2:C.dfr=[]:=hC.dfr;refine ⟨this.slots,this.size,hC.dfr.symm,this.objs,this.apart,this.stay,this.fresh,this.kept,this.mine,this.env,this.envD,this.base,this.grow,this.envk,this.glob⟩
 have hm':MarksOK P C E' σ' a'.defers:=by rw [hde];exact hm.carry hr h5
 refine hy C E' X' _ hC (hr.unbase h5) ⟨fun d hdm=>?_,?_⟩
 ·rcases List.mem_cons.1 hdm with rfl | hdm
  ·exact .inl (hH _ hcs)
  exact hm'.each d hdm
 exact List.pairwise_cons.2 ⟨fun d' _ D hD=>by simp at hD,hm'.nd⟩
section
variable {P:Program} {s:List (Nat × AV)} {b:List (Nat × Obj)} {n t e:Nat}
theorem Xo {ty d id:Nat} {x:Operand} {ms:_} (hu:P.underlying ty=some (.interface ms)) (hx:AJ s x=some (.lit .nilIface):=by exact rfl):At P ⟨s,b,n,t,e⟩ id (.binOp .neq ty x (.const .nilIface) d)=some (.lit (.bool false),[]):=by
 have h1:=BJ hu
 have h2:Br P (Op.equal ty .nilIface .nilIface)=some true:=by
  rw [show Op.equal ty .nilIface .nilIface=Op.equalIn (9999+1) ty .nilIface .nilIface from rfl,Op.equalIn];simp only [Bb,h1,Option.bind_some];rfl
 have h3:De P .neq ty x (.const .nilIface) .nilIface .nilIface=some (.bool false):=by
  simp [De,eqGuard,binOp,Bb,Bj,h2, -bind_pure_comp]
 have hy:AJ s (.const .nilIface)=some (.lit .nilIface):=rfl;simp only [At,AB hx,AB hy,toVal,h3];rfl
variable {Q:Exit→St→Prop}
theorem V1 {rs:List ResultVar} {k:Nat} {Post:AV→List (Nat × Obj)→Prop} {u u':AV} (ks:List Nat) {objs:List (Nat × Obj)} (hr:C2 P ⟨s,b,n,t,e⟩ rs=some [u]) (ho:Cu ⟨s,b,n,t,e⟩ (pos ks 0) k 0 ks=some objs) (hl:F1 k ks) (h:Post u' objs) (hu:BX (pos ks 0) u=some u':=by exact rfl) (hnd:ks.Nodup:=by decide):F8 P rs k Post .ret ⟨s,b,n,t,e⟩ :=
 Kr hr hu ho hnd hl h
theorem EW {a b b':AV} {r r':List AV} (h:b=b') (hr:r=r'):[a :: b :: r]=[a :: b' :: r']:=by rw [h,hr]
end
end Go.AM
