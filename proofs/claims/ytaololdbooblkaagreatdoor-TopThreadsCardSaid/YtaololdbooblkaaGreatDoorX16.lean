/-
  Part 16 of the proof: the abstract machine, proved sound over the model.
  Conditions: none.
-/
import Derived.ProofKit
import Derived.SizedLaws
import Derived.Carry
import Derived.LaidLaws
import Derived.LaidHandle
import Derived.Stop.Joined
import Derived.Test.YtaololdbooblkaaGreatDoorX15
set_option linter.unusedVariables false
set_option linter.unusedSimpArgs false
set_option linter.unusedSectionVars false
namespace Go.AM
section
open Go.ChangeShapes Go.WideShapes Go.RowKit
mutual
inductive WT (P:Program):TypeId→List AV→Prop
 |bool {t:TypeId} {b:Bool} (h:P.underlying t=some .bool):WT P t [.lit (.bool b)]
 |int {t:TypeId} {k:IntKind} {n:Int} (h:P.underlying t=some (.int k)) (hw:(Lit.int k n).wf=true):WT P t [.lit (.int k n)]
 |string {t:TypeId} {s:ByteArray} (h:P.underlying t=some .string) (hs:s.size≤reachBytes):WT P t [.lit (.string s)]
 |slice {t e:TypeId} {rows:List (List AV)} (h:P.underlying t=some (.slice e)) (hl:rows.length * P.bytesOf e≤reachBytes) (hr:∀ r ∈ rows,WT P e r):WT P t [.sh (P.cellsOf e) rows]
 |struct {t:TypeId} {fs:Array Field} {row:List AV} (h:P.underlying t=some (.struct fs)) (hr:WTF P (fs.toList.map (·.type)) row):WT P t row
inductive WTF (P:Program):List TypeId→List AV→Prop
 |nil:WTF P [] []
 |cons {t:TypeId} {ts:List TypeId} {r r':List AV} (h:WT P t r) (h':WTF P ts r'):WTF P (t :: ts) (r ++ r')
end
def JG (P:Program):Nat→List Field→Option Nat
 |cur,[]=>some cur
 |cur,f :: fs=>if f.offset=cur then JG P (cur+P.cellsOf f.type) fs else none
def EV (P:Program):Nat→TypeId→Bool
 |0,_=>false
 |n+1,t=>match P.underlying t with
  |some .bool=>true
  |some (.int _)=>true
  |some .string=>true
  |some (.slice e)=> !Nat.beq (P.cellsOf e) 0 && EV P n e
  |some (.struct fs)=>(JG P 0 fs.toList == some (P.cellsOf t)) && fs.toList.all fun f=>EV P n f.type
  |_=>false
theorem TS (a:Addr) (m n:Nat):(a.add m).add n=a.add (m+n):=by
 unfold Addr.add
 by_cases hm:m=0
 ·subst hm;simp
 by_cases hn:n=0
 ·subst hn;simp [hm]
 simp [hm,hn,Nat.add_assoc]
theorem Pl {w:World} {a:Addr} {u:Value} (h:w.cell? a=some u):a.spot=none∧a.block < w.heap.size:=by
 unfold World.cell? at h
 split at h
 ·rename_i c t f hb
  constructor
  ·cases hs:a.spot with
   |none=>rfl
   |some x=>simp [hs] at h
  exact (Array.getElem?_eq_some_iff.1 hb).1
 cases h
theorem Ja {H:Type} {P:Program} {e:TypeId}:∀ {l:List (DataW H)} {d:DataW H},d ∈ l→∀ x ∈ d.weights P e,x ∈ DataW.weightsAll P e l
 |[],d,h,_,_=>by simp at h
 |d' :: l,d,h,x,hx=>by
  simp only [DataW.weightsAll,List.mem_append]
  rcases List.mem_cons.1 h with rfl | h
  ·exact .inl hx
  ·exact .inr (Ja h x hx)
section opening
variable {H:Type} {enc:TypeId × Value→H} {P:Program} {w:World} {base:Nat} {E:Env}
theorem KF {n fuel:Nat} (hE:E.w=w)
 (ih:∀ (t:TypeId) (cs:List Value) (d:DataW H) (ps:List MemPlace),EV P n t=true→DataW.trod enc P w base (fun _=>true) true fuel t cs=some (d,ps)→(∀ x ∈ d.weights P t,x≤reachBytes)→∃ row,WT P t row∧FVc E.clear row cs) (cs:List Value) :
 ∀ (fl:List Field) (cur:Nat) (xs:List (DataW H × List MemPlace)),JG P cur fl=some cs.length→(fl.all fun f=>EV P n f.type)=true→xs.length=fl.length →
  (∀ (i:Nat) (f:Field),fl[i]?= some f→DataW.trod enc P w base (fun _=>true) true fuel f.type ((cs.drop f.offset).take (P.cellsOf f.type))=xs[i]?) →
  (∀ x ∈ DataW.weightsEach P (fl.map (·.type)) (xs.map (·.1)),x≤reachBytes)→∃ row,WTF P (fl.map (·.type)) row∧FVc E.clear row (cs.drop cur)
 |[],cur,xs,hc,_,_,_,_=>by
  simp only [JG,Option.some.injEq] at hc;subst hc;exact ⟨[], .nil,by simp [FVc]⟩
 |f :: fl,cur,[],hc,ho,hx,hf,hw=>by simp at hx
 |f :: fl,cur,x :: xs,hc,ho,hx,hf,hw=>by
  simp only [JG] at hc
  split at hc
  ·rename_i hoff
   simp only [List.all_cons,Bool.and_eq_true] at ho;simp only [List.map_cons,DataW.weightsEach,List.mem_append] at hw;have h0:=hf 0 f rfl;simp only [List.getElem?_cons_zero] at h0;obtain ⟨x1,x2⟩:=x;obtain ⟨r1,g1,g2⟩:=ih f.type _ x1 x2 ho.1 h0 (fun y hy=>hw y (.inl hy))
   obtain ⟨r2,g3,g4⟩:=KF hE ih cs fl (cur+P.cellsOf f.type) xs hc ho.2 (by simpa using hx) (fun i g hg=>by
    have:=hf (i+1) g (by simpa using hg)
    simpa using this) (fun y hy=>hw y (.inr hy))
   refine ⟨r1 ++ r2, .cons g1 g3,?_⟩
   have e:cs.drop cur=(cs.drop f.offset).take (P.cellsOf f.type) ++ cs.drop (cur+P.cellsOf f.type):=by
    rw [hoff, ← List.drop_drop,List.take_append_drop]
   rw [e];exact g2.append g4
  ·cases hc
theorem LK {fuel n:Nat} {e:TypeId} {a:Addr} {len:Nat} {elems:List (DataW H × List MemPlace)} (hE:E.w=w) (ho:EV P n e=true) (hlen:elems.length=len)
 (ih:∀ (t:TypeId) (cs:List Value) (d:DataW H) (ps:List MemPlace),EV P n t=true→DataW.trod enc P w base (fun _=>true) true fuel t cs=some (d,ps)→(∀ x ∈ d.weights P t,x≤reachBytes)→∃ row,WT P t row∧FVc E.clear row cs)
 (hel:∀ i,i < len→(w.cells? base (a.add (i * P.cellsOf e)) (P.cellsOf e)).bind (DataW.trod enc P w base (fun _=>true) true fuel e)=elems[i]?) (hw:∀ x ∈ DataW.weightsAll P e (elems.map (·.1)),x≤reachBytes) :
 ∀ m,m≤len→∃ (rows:List (List AV)) (xs:List Value),rows.length=m∧(∀ r ∈ rows,WT P e r)∧FVr E.clear (P.cellsOf e) rows xs∧holds w a xs
 |0,_=>⟨[],[],rfl,by simp,by simp [FVr],by intro j u h;simp at h⟩
 |m+1,hm=>by
  obtain ⟨rows,xs,h1,h2,h3,h4⟩:=LK hE ho hlen ih hel hw m (by omega);have hi:=hel m (by omega);have hel':elems[m]?= some (elems[m]'(by omega)):=List.getElem?_eq_getElem (by omega);rw [hel'] at hi;simp only [Option.bind_eq_some_iff] at hi;obtain ⟨cs,hcs,htr⟩:=hi;obtain ⟨_,hl,hc⟩:=World.cells?_some hcs;have hmem:(elems[m]'(by omega)).1 ∈ elems.map (·.1):=List.mem_map.2 ⟨_,List.getElem_mem _,rfl⟩;obtain ⟨row,g1,g2⟩:=ih e cs _ _ ho htr (fun x hx=>hw x (Ja hmem x hx));refine ⟨rows ++ [row],xs ++ cs,by simp [h1],?_,?_,?_⟩
  ·intro r hr
   rcases List.mem_append.1 hr with hr | hr
   ·exact h2 r hr
   ·simp at hr;subst hr;exact g1
  ·refine h3.append ?_;simp only [FVr];exact ⟨cs,[],by simp,by rw [← g2.length,hl],g2,rfl⟩
  ·intro j u hj
   have hxl:xs.length=m * P.cellsOf e:=by rw [h3.length,h1]
   rw [List.getElem?_append] at hj
   split at hj
   ·exact h4 j u hj
   ·rename_i hlt
    have hjl:j - xs.length < P.cellsOf e:=by
     have:=(List.getElem?_eq_some_iff.1 hj).1;omega
    have:=hc (j - xs.length) hjl;rw [TS,show m * P.cellsOf e+(j - xs.length)=j by omega] at this;rw [this];exact hj
theorem Jm (hE:E.w=w) (hS:∀ b,b < w.heap.size→E.S b):∀ (n fuel:Nat) (t:TypeId) (cs:List Value) (d:DataW H) (ps:List MemPlace),EV P n t=true→DataW.trod enc P w base (fun _=>true) true fuel t cs=some (d,ps) →
 (∀ x ∈ d.weights P t,x≤reachBytes)→∃ row,WT P t row∧FVc E.clear row cs
 |0,fuel,t,cs,d,ps,ho,_,_=>by simp [EV] at ho
 |n+1,fuel,t,cs,d,ps,ho,h,hw=>by
  simp only [EV] at ho
  split at ho
  ·rename_i hu
   obtain ⟨b,rfl,_⟩:=DataW.trod_bool hu h;exact ⟨_, .bool (b:=b) hu,by simp only [FVc,FV];exact ⟨_,[],rfl,rfl,rfl,rfl⟩⟩
  ·rename_i k hu
   obtain ⟨z,rfl,_,hwf⟩:=DataW.trod_int hu h;exact ⟨_, .int hu hwf,by simp only [FVc,FV];exact ⟨_,[],rfl,rfl,rfl,rfl⟩⟩
  ·rename_i hu
   obtain ⟨s,rfl,hx,_⟩:=DataW.trod_string hu h;simp only [Prod.mk.injEq] at hx
   have:s.size≤reachBytes:=by
    have:=hw s.data.toList.length (by rw [hx.1];simp [DataW.weights])
    simpa using this
   exact ⟨_, .string hu this,by simp only [FVc,FV];exact ⟨_,[],rfl,rfl,rfl,rfl⟩⟩
  ·rename_i e hu
   simp only [Bool.and_eq_true,Bool.not_eq_true'] at ho;have hsz:P.cellsOf e≠0:=Dg ho.1
   rcases DataW.trod_slice hu h with ⟨rfl,_⟩ | ⟨a,len,cap,elems,rest,fuel',rfl,rfl,hx,_,hlc,_,hlen,hel,_,_⟩
   ·exact ⟨_, .slice (rows:=[]) hu (by simp) (by simp),by
     simp only [FVc,FV]
     exact ⟨_,[],rfl,rfl,⟨none,0,[],rfl,Nat.le_refl _,by simp [FVr],fun h=>absurd rfl h⟩,rfl⟩⟩
   ·simp only [Prod.mk.injEq] at hx;rw [hx.1] at hw;simp only [DataW.weights,hu,List.length_map,List.mem_cons,List.mem_append] at hw;obtain ⟨rows,xs,h1,h2,h3,h4⟩:=LK (E:=E) hE ho.2 hlen (fun t cs d ps=>Jm hE hS n fuel' t cs d ps) hel (fun x hx=>hw x (.inr (.inl hx))) len (Nat.le_refl _);have hb:=hw _ (.inl rfl)
    have hbl:rows.length * P.bytesOf e≤reachBytes:=by
     refine Nat.le_trans (Nat.mul_le_mul_right _ ?_) hb;omega
    refine ⟨_, .slice hu hbl h2,?_⟩;simp only [FVc,FV];refine ⟨_,[],rfl,rfl,⟨some a,cap,xs,by rw [h1],by omega,h3,fun hne=>⟨a,rfl,?_⟩⟩,rfl⟩
    have hpos:0 < xs.length:=by
     rw [h3.length];exact Nat.mul_pos (List.length_pos_iff.2 hne) (Nat.pos_of_ne_zero hsz)
    have hc0:=h4 0 (xs[0]'hpos) (List.getElem?_eq_getElem hpos)
    have ha0:a.add 0=a:=by simp [Addr.add]
    rw [ha0] at hc0;obtain ⟨s1,s2⟩:=Pl hc0;exact ⟨s1,hS _ s2,by rw [show E.clear.w=w from hE];exact h4⟩
  ·rename_i fs hu
   simp only [Bool.and_eq_true,beq_iff_eq] at ho;obtain ⟨xs,fuel',rfl,hx,hlen,hxl,hf⟩:=DataW.trod_struct hu h;simp only [Prod.mk.injEq] at hx;rw [hx.1] at hw;simp only [DataW.weights,hu] at hw;obtain ⟨row,g1,g2⟩:=KF (E:=E) (n:=n) hE (fun t cs d ps=>Jm hE hS n fuel' t cs d ps) cs fs.toList 0 xs (by rw [hlen];exact ho.1) ho.2 (by simpa using hxl) (fun i f hi=>hf i f (by simpa using hi)) hw;exact ⟨row, .struct hu g1,by simpa using g2⟩
  ·cases ho
def Ho (P:Program) (t:TypeId) (row:List AV):AV:=match Bi P t with
 |some true=> .agg row
 |_=>row.headD .top
theorem U7 (hE:E.w=w) (hS:∀ b,b < w.heap.size→E.S b) {n:Nat} {t:TypeId} {v:Value} {d:DataW H} {ps:List MemPlace} {b0:Nat} (ho:EV P n t=true) (hv:Value.okWide P w .any b0 t v)
 (h:DataW.Trod enc P w base (fun _=>true) true t v d ps) (hw:∀ x ∈ d.weights P t,x≤reachBytes):∃ row,WT P t row∧FV E.clear (Ho P t row) v:=by
 obtain ⟨fuel,hf⟩:=h;obtain ⟨row,g1,g2⟩:=Jm (E:=E) hE hS n fuel t _ d ps ho hf hw;refine ⟨row,g1,?_⟩
 have hscal:Bi P t=some false→v.cells= #[v]→FV E.clear (Ho P t row) v:=by
  intro ha hc;rw [hc] at g2;have hl:=g2.length;simp only [List.length_cons,List.length_nil] at hl
  match row,hl,g2 with
  |[a],_,g2 =>
   simp only [FVc] at g2;obtain ⟨y,ys,e,_,hy,rfl⟩:=g2;simp only [List.cons.injEq] at e;obtain ⟨rfl,_⟩:=e
   simpa [Ho,ha] using hy
 have key:∀ dd,P.underlying t=some dd→isAggD dd=false→(∀ cs,¬ Cell.okWide P w .any b0 t (.agg cs))→Value.okWide P w .any b0 t v=Cell.okWide P w .any b0 t v→FV E.clear (Ho P t row) v:=by
  intro dd hu hd hno heq;refine hscal (by simp [Bi,hu,hd]) ?_;rw [heq] at hv
  cases v <;> first | rfl | exact absurd hv (hno _)
 cases n with
 |zero=>simp [EV] at ho
 |succ n =>
  simp only [EV] at ho
  split at ho
  ·rename_i hu
   exact key _ hu rfl (fun cs h=>by simp [Cell.okWide,Cell.ok,hu] at h) (by simp [Value.okWide,hu])
  ·rename_i hu
   exact key _ hu rfl (fun cs h=>by simp [Cell.okWide,Cell.ok,hu] at h) (by simp [Value.okWide,hu])
  ·rename_i hu
   exact key _ hu rfl (fun cs h=>by simp [Cell.okWide,Cell.ok,hu] at h) (by simp [Value.okWide,hu])
  ·rename_i hu
   exact key _ hu rfl (fun cs h=>by simp [Cell.okWide,Cell.ok,hu] at h) (by simp [Value.okWide,hu])
  ·rename_i fs hu
   obtain ⟨cs,rfl,_⟩:=okWide_struct hu hv
   have:Bi P t=some true:=by simp [Bi,hu,isAggD]
   simp only [Ho,this,FV];exact ⟨cs,rfl,by simpa [Value.cells] using g2⟩
  cases ho
inductive WTA (P:Program):List TypeId→List AV→Prop
 |nil:WTA P [] []
 |cons {t:TypeId} {ts:List TypeId} {row:List AV} {l:List AV} (h:WT P t row) (h':WTA P ts l):WTA P (t :: ts) (Ho P t row :: l)
theorem Nj (hE:E.w=w) (hS:∀ b,b < w.heap.size→E.S b) {n b0:Nat}:∀ (ts:List TypeId) (vs:List Value) (ds:List (DataW H)) (ps:List MemPlace),(ts.all fun t=>EV P n t)=true →
 (∀ (j:Nat) t v,ts[j]?= some t→vs[j]?= some v→Value.okWide P w .any b0 t v)→DataW.TrodAll enc P w base (fun _=>true) true ts vs ds ps→(∀ x ∈ DataW.weightsEach P ts ds,x≤reachBytes)→∃ avs,WTA P ts avs∧FVs E.clear avs vs
 |[],[],[],ps,_,_,_,_=>⟨[], .nil,by simp [FVs]⟩
 |t :: ts,v :: vs,d :: ds,ps,ho,hv,h,hw=>by
  simp only [List.all_cons,Bool.and_eq_true] at ho;simp only [DataW.TrodAll] at h;obtain ⟨p,q,h1,h2,_⟩:=h;simp only [DataW.weightsEach,List.mem_append] at hw;obtain ⟨row,g1,g2⟩:=U7 (E:=E) hE hS ho.1 (hv 0 t v rfl rfl) h1 (fun x hx=>hw x (.inl hx));obtain ⟨l,g3,g4⟩:=Nj hE hS ts vs ds q ho.2 (fun j t' v' h1 h2=>hv (j+1) t' v' (by simpa using h1) (by simpa using h2)) h2 (fun x hx=>hw x (.inr hx));exact ⟨_, .cons g1 g3,by simp only [FVs];exact ⟨v,vs,rfl,g2,g4⟩⟩
 |[],_ :: _,_,_,_,_,h,_=>by simp [DataW.TrodAll] at h
 |[],[],_ :: _,_,_,_,h,_=>by simp [DataW.TrodAll] at h
 |_ :: _,[],_,_,_,_,h,_=>by simp [DataW.TrodAll] at h
 |_ :: _,_ :: _,[],_,_,_,h,_=>by simp [DataW.TrodAll] at h
theorem trodAll_len:∀ {ts:List TypeId} {vs:List Value} {ds:List (DataW H)} {ps:List MemPlace} {sp:Nat→Bool} {hd:Bool},DataW.TrodAll enc P w base sp hd ts vs ds ps→ds.length=ts.length
 |[],[],[],_,_,_,_=>rfl
 |t :: ts,v :: vs,d :: ds,ps,sp,hd,h=>by
  simp only [DataW.TrodAll] at h;obtain ⟨p,q,_,h2,_⟩:=h
  simp [trodAll_len h2]
 |[],_ :: _,_,_,_,_,h=>by simp [DataW.TrodAll] at h
 |[],[],_ :: _,_,_,_,h=>by simp [DataW.TrodAll] at h
 |_ :: _,[],_,_,_,_,h=>by simp [DataW.TrodAll] at h
 |_ :: _,_ :: _,[],_,_,_,h=>by simp [DataW.TrodAll] at h
theorem J5 (hl:laidOutB P=true) {W W':World} {sp':Nat→Bool}:∀ {ts:List TypeId} {vs:List Value} {ds:List (DataW H)} {ps:List MemPlace},(ts.all fun t=>P.readableRec t && Nat.blt t P.types.size)=true →
 DataW.TrodAll enc P W 0 (fun _=>true) true ts vs ds ps→(∀ p ∈ ps,W.sameAt W' p)→(∀ p ∈ ps,sp' p.block=true)→DataW.TrodAll enc P W' 0 sp' true ts vs ds ps
 |[],[],[],ps,_,h,_,_=>h
 |t :: ts,v :: vs,d :: ds,ps,hr,h,h1,h2=>by
  simp only [List.all_cons,Bool.and_eq_true] at hr;simp only [DataW.TrodAll] at h ⊢;obtain ⟨p,q,g1,g2,rfl⟩:=h;exact ⟨p,q,WideElems.Trod_stays hl hr.1.1 (Nat.le_of_ble_eq_true hr.1.2) g1 (fun x hx=>h1 x (by simp [hx])) (fun x hx=>h2 x (by simp [hx])),J5 hl hr.2 g2 (fun x hx=>h1 x (by simp [hx])) (fun x hx=>h2 x (by simp [hx])),rfl⟩
 |[],_ :: _,_,_,_,h,_,_=>by simp [DataW.TrodAll] at h
 |[],[],_ :: _,_,_,h,_,_=>by simp [DataW.TrodAll] at h
 |_ :: _,[],_,_,_,h,_,_=>by simp [DataW.TrodAll] at h
 |_ :: _,_ :: _,[],_,_,h,_,_=>by simp [DataW.TrodAll] at h
end opening
theorem LB {H:Type} {enc:TypeId × Value→H} {C:Checked} {os:Os} {f:FuncId} {fn:Func} {s:ChangeSpec} {ts:List TypeId} {tb:TypeId} {laid:List (String × DataW Unit)} (own:ownKnob C.prog.godebug=none) (started:os.Started) (noInit:C.prog.inits.idxOf? f=none)
 (hfn:C.prog.funcs[f]?= some fn)
 (witness:∃ (w:World) (tape:Tape) (i:Input),w.os=os∧(w.forCall tape i).Shaped C.prog∧i.vars=[]∧Input.okWide C.prog (w.forCall tape i) .any w.heap.size f i ∧
   ((s.pre enc C.prog fn [] false (w.forCall tape i).memory i.args∧laidMetH C.prog laid (w.forCall tape i).memory)∧sizedMet enc C.prog fn (OpenSpec.ofChange s) false (w.forCall tape i).memory i.args)∧({}:Assume).holds C.prog (lone (Frame.enter C.prog f i.args .normal) [] (w.forCall tape i)))
 (hl:laidOutB C.prog=true) (hts:fn.params.toList=ts) (hrt:fn.resultTypes= #[tb]) (hb:C.prog.underlying tb=some .bool) (hvars:s.vars=[])
 (hread:(ts.all fun t=>C.prog.readableRec t && Nat.blt t C.prog.types.size)=true) (hop:(ts.all fun t=>EV C.prog 12 t)=true)
 (hspec:∀ ds:List (DataW H),ds.length=ts.length→s.fn H ds={ results:=[.lit (.bool true)],args:=ds })
 (hF:∀ avs,WTA C.prog ts avs→Fun C.prog f avs (AI (.lit (.bool true)) [])) (hL:∀ W,laidMetH C.prog laid W→LaidOK W (fun b=>b < W.heap.size)) :
 ReturnsInHanded {} C os f .any (fun w args=>(s.pre enc C.prog fn [] false w args∧laidMetH C.prog laid w)∧sizedMet enc C.prog fn (OpenSpec.ofChange s) false w args) (s.post enc C.prog fn false true false false):=by
 refine returnsInHanded_of_change_and (X:=fun w _=>laidMetH C.prog laid w) (fun _ _ _ hh h=>h.of_heap hh) own started noInit hfn witness ?_;intro W base args ds gs before hval hW _ hsz hLd _;have hW':=hW;obtain ⟨p,q,hA,hV,rfl,_,_⟩:=hW;rw [hvars] at hV
 have hgs:gs=[]∧q=[]:=by
  cases gs with
  |nil=>simp only [DataW.TrodVars] at hV;exact ⟨rfl,hV⟩
  |cons g gs=>simp [DataW.TrodVars] at hV
 obtain ⟨rfl,rfl⟩:=hgs
 have hpl:s.plain.varTypes C.prog=[]:=by simp [DataSpec.varTypes,ChangeSpec.plain,hvars]
 rw [hts] at hA hsz;rw [hpl,List.append_nil,List.append_nil] at hsz
 have hwt:∀ x ∈ DataW.weightsEach C.prog ts ds,x≤reachBytes:=by
  intro x hx;have:=List.all_eq_true.1 hsz x hx
  simpa using this
 let E:Env:={ w:=W,H:=fun _=>undef,Z:=fun _=>0,D:=fun _=>False,S:=fun b=>b < W.heap.size }
 obtain ⟨avs,hwta,hfv⟩:=Nj (E:=E) (b0:=base) rfl (fun b h=>h) ts args.toList ds p hop (fun j t v h1 h2=>hval j t v (by rw [← hts] at h1;simpa using h1) (by simpa using h2)) hA hwt;have hcall:=(hF avs hwta).2 E args.toList hfv (fun b h=>h) (hL W hLd);rw [Array.toArray_toList] at hcall;refine hcall.mono ?_;rintro e W' ⟨y,v,objs,E',X',rfl,rfl,⟨rfl,rfl⟩,hLP⟩
 have hy:y= .bool true:=by have:=hLP.val;simpa [FV] using this
 subst hy;have hbel:Below W.heap.size W E'.w:=⟨hLP.keep.os,hLP.keep.tape.1,hLP.keep.output,hLP.keep.size,fun k hk=>hLP.keep.block k hk (fun h=>h)⟩
 have hlt:∀ x ∈ p,x.block < W.heap.size:=fun x hx=>by simpa using hW'.lt x (by simpa using hx)
 have hdl:=trodAll_len hA;refine ⟨_,rfl,ds,[],p ++ [],[],p,[],hW',?_,?_,?_,?_,fun h=>by cases h⟩
 ·rw [List.append_nil,hspec ds hdl,hrt];simp only [Value.resultList];exact ⟨[],[],⟨1,by simp [DataW.trod,Value.cells,hb]⟩,rfl,rfl⟩
 ·rw [List.append_nil,hspec ds hdl,hts];exact J5 hl hread hA (fun x hx=>hbel.same (hlt x hx)) (fun x hx=>by simpa using hlt x hx)
 ·rw [hvars,List.append_nil,hspec ds hdl];rfl
 exact hbel.frame _
def Eb (P:Program) (t:TypeId):Option (List TypeId):=match P.underlying t with
 |some (.struct fs)=>some (fs.toList.map (·.type))
 |_=>none
theorem WT.int_inv {P:Program} {t:TypeId} {k:IntKind} {row:List AV} (h:WT P t row) (hu:P.underlying t=some (.int k)):∃ n,row=[.lit (.int k n)]∧(Lit.int k n).wf=true:=by
 cases h with
 |bool h=>rw [hu] at h;cases h
 |int h hw=>rw [hu] at h;cases h;exact ⟨_,rfl,hw⟩
 |string h _=>rw [hu] at h;cases h
 |slice h _ _=>rw [hu] at h;cases h
 |struct h _=>rw [hu] at h;cases h
theorem WT.string_inv {P:Program} {t:TypeId} {row:List AV} (h:WT P t row) (hu:P.underlying t=some .string):∃ s:ByteArray,row=[.lit (.string s)]∧s.size≤reachBytes:=by
 cases h with
 |bool h=>rw [hu] at h;cases h
 |int h hw=>rw [hu] at h;cases h
 |string h hs=>exact ⟨_,rfl,hs⟩
 |slice h _ _=>rw [hu] at h;cases h
 |struct h _=>rw [hu] at h;cases h
theorem WT.slice_inv {P:Program} {t e:TypeId} {row:List AV} (h:WT P t row) (hu:A9 P t=some e):∃ rows,row=[.sh (P.cellsOf e) rows]∧rows.length * P.bytesOf e≤reachBytes∧∀ r ∈ rows,WT P e r:=by
 cases h with
 |bool h=>simp [A9,h] at hu
 |int h hw=>simp [A9,h] at hu
 |string h hs=>simp [A9,h] at hu
 |slice h hl hr =>
  simp only [A9,h,Option.some.injEq] at hu;subst hu;exact ⟨_,rfl,hl,hr⟩
 |struct h _=>simp [A9,h] at hu
theorem WT.struct_inv {P:Program} {t:TypeId} {ts:List TypeId} {row:List AV} (h:WT P t row) (hu:Eb P t=some ts):WTF P ts row:=by
 cases h with
 |bool h=>simp [Eb,h] at hu
 |int h hw=>simp [Eb,h] at hu
 |string h hs=>simp [Eb,h] at hu
 |slice h hl hr=>simp [Eb,h] at hu
 |struct h hr =>
  simp only [Eb,h,Option.some.injEq] at hu;subst hu;exact hr
theorem WTF.cons_inv {P:Program} {t:TypeId} {ts:List TypeId} {row:List AV} (h:WTF P (t :: ts) row):∃ r r',row=r ++ r'∧WT P t r∧WTF P ts r':=by
 cases h with
 |cons h h'=>exact ⟨_,_,rfl,h,h'⟩
theorem WTF.nil_inv {P:Program} {row:List AV} (h:WTF P [] row):row=[]:=by
 cases h;rfl
theorem WTA.cons_inv {P:Program} {t:TypeId} {ts:List TypeId} {l:List AV} (h:WTA P (t :: ts) l):∃ row l',l=Ho P t row :: l'∧WT P t row∧WTA P ts l':=by
 cases h with
 |cons h h'=>exact ⟨_,_,rfl,h,h'⟩
theorem WTA.nil_inv {P:Program} {l:List AV} (h:WTA P [] l):l=[]:=by
 cases h;rfl
theorem Im {P:Program} {t:TypeId} {v:AV} (h:Bi P t=some false):Ho P t [v]=v:=by simp [Ho,h]
theorem Js {T:Type} {f:T→List AV} {q:T→Prop}:∀ {rows:List (List AV)},(∀ r ∈ rows,∃ x,r=f x∧q x)→∃ l:List T,rows=l.map f∧∀ x ∈ l,q x
 |[],_=>⟨[],rfl,by simp⟩
 |r :: rows,h=>by
  obtain ⟨x,h1,h2⟩:=h r (by simp);obtain ⟨l,h3,h4⟩:=Js (rows:=rows) (fun r' hr=>h r' (by simp [hr]));refine ⟨x :: l,by simp [h1,h3],fun y hy=>?_⟩
  rcases List.mem_cons.1 hy with rfl | hy
  ·exact h2
  ·exact h4 y hy
end
end Go.AM
