/-
  Part 13 of the proof: the abstract machine, proved sound over the model.
  Conditions: none.
-/
import Derived.Scope
import Derived.Test.YtaololdbooblkaaGreatDoorX12
set_option linter.unusedVariables false
set_option linter.unusedSimpArgs false
set_option linter.unusedSectionVars false
set_option linter.unnecessarySimpa false
namespace Go.AM
def WL {α:Type} (P:Program) (gf:Nat) (lb:Array Value) (encs:α→Array Value) (S Sp:List α→Prop) (N:List α→α→(Nat→Prop)→(Nat→Prop)→World→Prop) (Z0 S0:Nat→Prop) (w0:World):Prop :=
 ∀ (l:Nat) (J Jx:List α→(Nat→Prop)→World→Prop) (W:World),Keep (fun b=>¬ (Z0 b∨S0 b)) w0 W →
  (∀ pre Z A B,J pre Z A→Keep Z A B→J pre (GZ Z A B) B)→(∀ pre Z A B,Jx pre Z A→Keep Z A B→Jx pre (GZ Z A B) B) →
  (∀ pre Z Z' x A,J pre Z A→(∀ b,Z' b→Z b)→N pre x Z Z' A→YieldAt Fence.wide 0 P l (encs x) A fun e B=>Keep (fun b=>¬ (Z' b∨S0 b)) A B∧((e= .returned (.bool true)∧J (pre ++ [x]) Z' B)∨(e= .returned (.bool false)∧Jx (pre ++ [x]) Z' B))) →
  J [] Z0 W →
  Calls P gf (#[.func (.yield l) #[] #[]] ++ lb) W fun e B=>(∃ v,e= .returned v)∧((∃ xs Z,S xs∧J xs Z B)∨(∃ pre Z,Sp pre∧Jx pre Z B))
theorem TD {α:Type} {P:Program} {g:Operand} {ps:Array Tmp} {assign body:Code} {Q:Exit→Act→World→Prop} {a:Act} {w:World} {gf:Nat} {lb:Array Value}
 (hg:a.eval g= .func (.func gf) #[] lb) (eg:∀ args w,(callFunc gf args).run P w= .ok (.enter gf args) w)
 {encs:α→Array Value} {S Sp:List α→Prop} {N:List α→α→(Nat→Prop)→(Nat→Prop)→World→Prop} {Z0 S0:Nat→Prop} (hseq:WL P gf lb encs S Sp N Z0 S0 w) (hps:∀ x,(encs x).size=ps.size) (hZ0:∀ b,Z0 b→b < w.heap.size) (hS0:∀ b,S0 b→b < w.heap.size)
 (I:List α→(Nat→Prop)→World→Prop) (Ix:Code→List α→(Nat→Prop)→World→Prop)
 (hI:∀ pre Z A B,I pre Z A→Keep Z A B→I pre (GZ Z A B) B) (hIx:∀ c pre Z A B,Ix c pre Z A→Keep Z A B→Ix c pre (GZ Z A B) B)
 (hIm:∀ pre (Z Z':Nat→Prop) A,I pre Z A→(∀ b,Z' b→Z b)→I pre Z' A) (hIxm:∀ c pre (Z Z':Nat→Prop) A,Ix c pre Z A→(∀ b,Z' b→Z b)→Ix c pre Z' A) (h0:I [] Z0 w)
 (hround:∀ (l n:Nat) (pre:List α) (x:α) (Z Z' T:Nat→Prop) (A:World),I pre (fun b=>Z b∨T b) A→(∀ b,Z' b→Z b)→(∀ b,T b→¬ Z b)→N pre x Z Z' A→T l →
   assign.wpIn (IU l) n P (Exit.then (fun a₁ A₁=>Keep (fun b=>¬ ((Z' b∨T b)∨S0 b)) A A₁∧∀ A₂,Keep (fun b=>b=l) A₁ A₂→A₂.heap.size=A₁.heap.size→body.wpIn (IU l) n P (Vy S0 I Ix (pre ++ [x]) (fun b=>Z' b∨T b) A₂) a₁ A₂) (fun _ _ _=>False))
    { tmps:=(ps.zip (encs x)).foldl (fun t (p,v)=>t.setIfInBounds p v) a.tmps,defers:=[] } A)
 (hdone:∀ (D:Nat) (xs:List α) (Z:Nat→Prop) (W:World),w.heap.size≤D→Z D→S xs→I xs Z W→W.heap[D]?= some (.deferred (some []))→Q .normal { a with defers:={ target:= .collected D,args:= #[] } :: a.defers } W)
 (hstop:∀ (D:Nat) (c:Code) (pre:List α) (Z:Nat→Prop) (W:World),w.heap.size≤D→Z D→Sp pre→Ix c pre Z W→W.heap[D]?= some (.deferred (some []))→c.wp P Q { a with defers:={ target:= .collected D,args:= #[] } :: a.defers } W) :
 (Code.rangeFunc g ps assign body).wp P Q a w:=by
 refine (wpIn_wide (n:=1)).1 (wpIn_rangeFunc ?_);intro fn hfn;obtain ⟨rec,hrec⟩:∃ rec:LoopState→Option Code→Loop,rec=fun st pe=>{ state:=st,pending:=pe,fn,tmps:=a.tmps,params:=ps,assign,body,defers:=w.heap.size }:=⟨_,rfl⟩;obtain ⟨W1,hW1⟩:∃ W1,(w.alloc (.deferred (some []))).alloc (.loop (rec .ready none))=W1:=⟨_,rfl⟩;obtain ⟨l,hl⟩:∃ l,l=w.heap.size+1:=⟨_,rfl⟩;obtain ⟨D,hD⟩:∃ D,D=w.heap.size:=⟨_,rfl⟩
 have hsz1:W1.heap.size=w.heap.size+2:=by rw [← hW1];simp
 have hL1:W1.heap[l]?= some (.loop (rec .ready none)):=by
  rw [← hW1,hl];have:=World.alloc_heap_new (w.alloc (.deferred (some []))) (.loop (rec .ready none));rwa [World.size_alloc] at this
 have hK1:W1.heap[D]?= some (.deferred (some [])):=by
  rw [← hW1,hD];exact (Go.RowKit.Below.heap_alloc _ _ _ (by simp)).trans (World.alloc_heap_new w _)
 have hkp1:∀ own,Keep own w W1:=fun own=>by rw [← hW1];exact (Keep.alloc own w _).trans (Keep.alloc own _ _)
 have hlD:l≠D:=by omega
 have hlS:¬ S0 l:=fun h=>by have:=hS0 l h;omega
 have hI1:I [] (fun b=>Z0 b∨b=l∨b=D) W1:=hIm _ _ _ _ (hI _ _ _ _ h0 (hkp1 Z0)) fun b hb=>by
  rcases hb with h | h | h
  ·exact .inl h
  ·exact .inr ⟨by omega,by omega⟩
  exact .inr ⟨by omega,by omega⟩
 refine ⟨l,[{ target:= .collected D,args:= #[] }],W1,{ target:= .fn (.func gf) lb,args:= #[.func (.yield l) #[] #[]] },W1,gf, #[.func (.yield l) #[] #[]] ++ lb,W1,?_,?_,fun _ _=>trivial,?_,fun h=>by simp [Fence.wide] at h,?_⟩
 ·rw [← hW1,hrec,hl,hD];exact run_enterLoop_outer _ _ _ _ _
 ·simp only [resolve,hg]
  simp [go_sem]
 ·simp [invoke,go_sem,eg]
 refine callsIn_wide.2 ((hseq l
  (fun pre Z A=>I pre (fun b=>Z b∨b=l∨b=D) A∧A.heap[l]?= some (.loop (rec .ready none))∧A.heap[D]?= some (.deferred (some []))∧¬ Z l∧¬ Z D)
  (fun pre Z A=>∃ c,Ix c pre (fun b=>Z b∨b=l∨b=D) A∧A.heap[l]?= some (.loop (rec .done (some c)))∧A.heap[D]?= some (.deferred (some []))∧¬ Z l∧¬ Z D) W1 (hkp1 _) ?_ ?_ ?_ ⟨hI1,hL1,hK1,fun h=>by have:=hZ0 l h;omega,fun h=>by have:=hZ0 D h;omega⟩).mono ?_)
 ·rintro pre Z A B ⟨h1,h2,h3,h4,h5⟩ hk;have a1:=(Array.getElem?_eq_some_iff.1 h2).1;have a2:=(Array.getElem?_eq_some_iff.1 h3).1;refine ⟨hIm _ _ _ _ (hI _ _ _ _ h1 (hk.mono fun b hb=> .inl hb)) fun b hb=>?_,(hk.block l a1 h4).trans h2,(hk.block D a2 h5).trans h3,?_,?_⟩
  ·rcases hb with (h | h) | h
   ·exact .inl (.inl h)
   ·exact .inr h
   exact .inl (.inr h)
  ·rintro (h | h)
   ·exact h4 h
   omega
  rintro (h | h)
  ·exact h5 h
  omega
 ·rintro pre Z A B ⟨c,h1,h2,h3,h4,h5⟩ hk;have a1:=(Array.getElem?_eq_some_iff.1 h2).1;have a2:=(Array.getElem?_eq_some_iff.1 h3).1;refine ⟨c,hIxm _ _ _ _ _ (hIx _ _ _ _ _ h1 (hk.mono fun b hb=> .inl hb)) fun b hb=>?_,(hk.block l a1 h4).trans h2,(hk.block D a2 h5).trans h3,?_,?_⟩
  ·rcases hb with (h | h) | h
   ·exact .inl (.inl h)
   ·exact .inr h
   exact .inl (.inr h)
  ·rintro (h | h)
   ·exact h4 h
   omega
  rintro (h | h)
  ·exact h5 h
  omega
 ·rintro pre Z Z' x A ⟨h1,h2,h3,h4,h5⟩ hzz hlen;have a1:=(Array.getElem?_eq_some_iff.1 h2).1;have hy:=run_yield (P:=P) (args:=encs x) h2 (by rw [hrec];exact hps x);rw [hrec] at hy;refine ⟨fn,_,assign,body,hy,roundIn_of_wpIn hfn (wpIn_mono (hround l 0 pre x Z Z' (fun b=>b=l∨b=D) A h1 hzz (fun b hb=>hb.elim (fun e=>e ▸ h4) (fun e=>e ▸ h5)) hlen (.inl rfl)) ?_)⟩;rintro e a1' A1 hp
  cases e <;> simp only [Exit.then] at hp ⊢
  obtain ⟨hkA,hb⟩:=hp;have h4:¬ Z' l:=fun h=>h4 (hzz _ h);have h5:¬ Z' D:=fun h=>h5 (hzz _ h);have a0:=a1;have h2':A1.heap[l]?= some (.loop (rec .ready none)):=(hkA.block l a1 fun h=>h (.inl (.inr (.inl rfl)))).trans h2;have h3':A1.heap[D]?= some (.deferred (some [])):=(hkA.block D (Array.getElem?_eq_some_iff.1 h3).1 fun h=>h (.inl (.inr (.inr rfl)))).trans h3;have a1:=(Array.getElem?_eq_some_iff.1 h2').1;refine ⟨_,run_beginRound h2' (by rw [hrec]),?_⟩;obtain ⟨A2,hA2⟩:∃ A2,A1.putObj l (.loop { rec .ready none with state:= .busy })=A2:=⟨_,rfl⟩
  have hk2:Keep (fun b=>b=l) A1 A2:=by rw [← hA2];exact Keep.putObj _ _ rfl
  have hl2:A2.heap[l]?= some (.loop { rec .ready none with state:= .busy }):=by rw [← hA2];exact World.putObj_heap_same a1
  have hD2:A2.heap[D]?= some (.deferred (some [])):=by rw [← hA2];exact (World.putObj_heap_other (Ne.symm hlD)).trans h3'
  rw [hA2];refine wpIn_mono (hb A2 hk2 (by rw [← hA2];simp)) ?_
  have fin:∀ (jump:Option Code) (W3:World),Keep (fun b=>¬ ((Z' b∨b=l∨b=D)∨S0 b)) A2 W3 →
   ∃ W4,(Instr.endRound l jump).run P W3= .ok (.bool jump.isNone) W4∧W4.heap[l]?= some (.loop (rec (if jump.isNone then .ready else .done) jump))∧W4.heap[D]?= some (.deferred (some []))∧Keep (fun b=>b=l) W3 W4∧W4.heap.size=W3.heap.size∧Keep (fun b=>¬ (Z' b∨S0 b)) A W4:=fun jump W3 hk3=>by
   have b1:=(Array.getElem?_eq_some_iff.1 hl2).1;have b2:=(Array.getElem?_eq_some_iff.1 hD2).1;have hl3:W3.heap[l]?= some (.loop { rec .ready none with state:= .busy }):=(hk3.block l b1 fun h=>h (.inl (.inr (.inl rfl)))).trans hl2;have hD3:W3.heap[D]?= some (.deferred (some [])):=(hk3.block D b2 fun h=>h (.inl (.inr (.inr rfl)))).trans hD2;have hr:=run_endRound (P:=P) jump hl3;rw [hrec] at hr ⊢;refine ⟨_,hr,World.putObj_heap_same (Array.getElem?_eq_some_iff.1 hl3).1,(World.putObj_heap_other (Ne.symm hlD)).trans hD3,Keep.putObj _ _ rfl,by simp,?_⟩
   have hnl:∀ b,b=l→¬ (Z' b∨S0 b):=fun b e h=>by subst e;exact h.elim h4 hlS
   exact (((hkA.mono (own':=fun b=>¬ (Z' b∨S0 b)) fun b h h'=>h (h'.elim (fun h=> .inl (.inl h)) .inr)).trans (hk2.mono hnl)).trans (hk3.mono fun b h h'=>h (h'.elim (fun h=> .inl (.inl h)) .inr))).trans (Keep.putObj _ _ (hnl l rfl))
  have stay:∀ {W3 W4:World},Keep (fun b=>b=l) W3 W4→Keep (fun b=>Z' b∨b=l∨b=D) W3 W4:=fun h=>h.mono fun b hb=> .inr (.inl hb);rintro e a3 W3 hp
  cases e with
  |normal =>
   obtain ⟨hk3,hi3⟩:=hp;obtain ⟨W4,hr,g1,g2,g3,g4,g5⟩:=fin none W3 hk3;exact ⟨_,W4,hr,g5, .inl ⟨rfl,hIm _ _ _ _ (hI _ _ _ _ hi3 (stay g3)) (fun b hb=> .inl hb),g1,g2,h4,h5⟩⟩
  |ret =>
   obtain ⟨hk3,hi3⟩:=hp;obtain ⟨W4,hr,g1,g2,g3,g4,g5⟩:=fin (some .ret) W3 hk3;exact ⟨_,W4,hr,g5, .inr ⟨rfl, .ret,hIxm _ _ _ _ _ (hIx _ _ _ _ _ hi3 (stay g3)) (fun b hb=> .inl hb),g1,g2,h4,h5⟩⟩
  |exit id =>
   obtain ⟨hk3,hi3⟩:=hp;obtain ⟨W4,hr,g1,g2,g3,g4,g5⟩:=fin (some (.exit id)) W3 hk3;exact ⟨_,W4,hr,g5, .inr ⟨rfl, .exit id,hIxm _ _ _ _ _ (hIx _ _ _ _ _ hi3 (stay g3)) (fun b hb=> .inl hb),g1,g2,h4,h5⟩⟩
  |goto t =>
   obtain ⟨hk3,hi3⟩:=hp;obtain ⟨W4,hr,g1,g2,g3,g4,g5⟩:=fin (some (.goto t)) W3 hk3;exact ⟨_,W4,hr,g5, .inr ⟨rfl, .goto t,hIxm _ _ _ _ _ (hIx _ _ _ _ _ hi3 (stay g3)) (fun b hb=> .inl hb),g1,g2,h4,h5⟩⟩
  |panic ch=>exact hp.elim
  |outgrown=>exact hp.elim
 rintro e W2 ⟨⟨v,rfl⟩,(⟨xs,Z,hS,h1,h2,h3,h4,h5⟩ | ⟨pre,Z,hSp,c,h1,h2,h3,h4,h5⟩)⟩
 ·refine ⟨none,_,by have:=run_endLoop (P:=P) h2 (by rw [hrec];simp);rw [hrec] at this;exact this,?_⟩;exact hdone D xs _ _ (by omega) (.inl (.inr (.inr rfl))) hS (hI _ _ _ _ h1 (Keep.putObj _ _ (.inr (.inl rfl)))) ((World.putObj_heap_other (Ne.symm hlD)).trans h3)
 refine ⟨some c,_,by have:=run_endLoop (P:=P) h2 (by rw [hrec];simp);rw [hrec] at this;exact this,?_⟩;exact wpIn_wide.2 (hstop D c pre _ _ (by omega) (.inl (.inr (.inr rfl))) hSp (hIx _ _ _ _ _ h1 (Keep.putObj _ _ (.inr (.inl rfl)))) ((World.putObj_heap_other (Ne.symm hlD)).trans h3))
structure RndH {α:Type} (P:Program) (l:Nat) (encs:α→Array Value) (N:List α→α→(Nat→Prop)→(Nat→Prop)→World→Prop) (S0:Nat→Prop) (J:Bool × List α→(Nat→Prop)→World→Prop):Prop where
 step:∀ g Z A B,J g Z A→Keep Z A B→J g (GZ Z A B) B
 round:∀ pre Z Z' x A,J (true,pre) Z A→(∀ b,Z' b→Z b)→N pre x Z Z' A→YieldAt Fence.wide 0 P l (encs x) A fun e B=>Keep (fun b=>¬ (Z' b∨S0 b)) A B∧((e= .returned (.bool true)∧J (true,pre ++ [x]) Z' B)∨(e= .returned (.bool false)∧J (false,pre ++ [x]) Z' B))
def SeqRH {α:Type} (P:Program) (gf:Nat) (caps:List AV) (objs:List (Nat × Obj)) (k:Nat) (encs:α→Array Value) (S Sp:List α→Prop) (N:List α→α→(Nat→Prop)→(Nat→Prop)→World→Prop):Prop :=
 EG P gf∧∀ (E:Env) (X:Nat→List Value) (lb:List Value),Entry E X objs k→FVs E caps lb→WL P gf lb.toArray encs S Sp N (El E objs) E.S E.w
theorem SeqRH.of_body {α:Type} {P:Program} {gf:FuncId} {fn:Func} {c:Code} {caps:List AV} {objs:List (Nat × Obj)} {k:Nat} {N:List α→α→(Nat→Prop)→(Nat→Prop)→World→Prop} {encs:α→Array Value} {S Sp:List α→Prop}
 (hf:P.funcs[gf]?= some fn) (hb:fn.body=some c) (hnm:(fn.name == "runtime.NumGoroutine")=false) (hrs:fn.results= #[]) (hn:caps.length+1≤fn.ntmps)
 (h:∀ l S0 (J:Bool × List α→(Nat→Prop)→World→Prop),RndH P l encs N S0 J→EvY P S0 J c ⟨argSlots 0 (.lit (.func (.yield l) #[] #[]) :: caps),objs,k,fn.ntmps,k⟩ (true,[]) (fun e σ' g'=>(e= .normal∨e= .ret)∧(g'.1=true→S g'.2)∧(g'.1=false→Sp g'.2))) :
 SeqRH P gf caps objs k encs S Sp N:=by
 refine ⟨⟨fn,hf,by simp [hb],hnm⟩,fun E X lb hE hx=>?_⟩;intro l J Jx W hW hJ hJx hround hJ0
 obtain ⟨J',hJ'⟩:∃ J':Bool × List α→(Nat→Prop)→World→Prop,J'=fun g=>match g.1 with | true=>J g.2 | false=>Jx g.2:=⟨_,rfl⟩
 have hR:RndH P l encs N E.S J':=by
  subst hJ';refine ⟨fun g Z A B h1 h2=>?_,fun pre Z Z' x A h1 h0 h2=>?_⟩
  ·rcases g with ⟨b,pre⟩
   cases b
   ·exact hJx pre Z A B h1 h2
   exact hJ pre Z A B h1 h2
  exact hround pre Z Z' x A h1 h0 h2
 have hxl:=hx.length;have hle:E.le { E with w:=W }:=⟨fun b hb=>⟨hb,hW.block b (hE.stay b hb).1 fun h=>h (.inr hb)⟩,fun r hr=>⟨hr,rfl,rfl⟩⟩;have hown:∀ r o b,Al objs r=some o→blockOf (E.H r)=some b→W.heap[b]?= E.w.heap[b]?:=fun r o b h1 h2=>hW.block b ((hE.objs r o h1).2.2.1.lt h2) fun h=>h (.inl ⟨r,o,h1,h2⟩)
 have hrel:Rel (Fy { E with w:=W } objs k) { E with w:=W } X ⟨argSlots 0 (.lit (.func (.yield l) #[] #[]) :: caps),objs,k,fn.ntmps,k⟩ { tmps:=(#[Value.func (Fn.yield l) #[] #[]] ++ lb.toArray) ++ Array.replicate (fn.ntmps - (#[Value.func (Fn.yield l) #[] #[]] ++ lb.toArray).size) undef,defers:=[] }:=by
  have hxx:FVs { E with w:=W } (.lit (.func (.yield l) #[] #[]) :: caps) (Value.func (Fn.yield l) #[] #[] :: lb):=⟨_,_,rfl,by simp [FV],FVs.le _ hle _ hx⟩;refine ⟨?_,?_,rfl,?_,hE.apart,?_,?_,Keep.refl _ _,?_,?_,?_,fun b hb=>hb,fun b hb=> .inl hb,rfl,hE.glob.le hle⟩
  ·intro s v hv;obtain ⟨_,h2⟩:=find_argSlots _ 0 s v hv;simp only [Nat.sub_zero] at h2;obtain ⟨y,hy,hfv⟩:=hxx.get h2
   have e0:(#[Value.func (Fn.yield l) #[] #[]] ++ lb.toArray:Array Value)=(Value.func (Fn.yield l) #[] #[] :: lb).toArray:=by simp
   rw [e0]
   generalize (Value.func (Fn.yield l) #[] #[] :: lb)=xs at hy ⊢
   have hlt:s < xs.length:=(List.getElem?_eq_some_iff.1 hy).1
   have:(xs.toArray ++ Array.replicate (fn.ntmps - xs.toArray.size) undef).getD s undef=y:=by
    have e:(xs.toArray ++ Array.replicate (fn.ntmps - xs.toArray.size) undef)[s]?= some y:=by
     rw [Array.getElem?_append_left (by simpa using hlt)]
     simpa using hy
    rw [Array.getD_eq_getD_getElem?,e];rfl
   rw [this];exact hfv
  ·simp [hxl];omega
  ·intro r o hr;obtain ⟨h1,h2,h3,h4⟩:=hE.objs r o hr;exact ⟨(hE.dom r).2 h1,h2,h3.kept fun b hb=>hown r o b hr hb,FVr.le _ _ (hle.by _) _ h4⟩
  ·intro b hb;exact ⟨Nat.lt_of_lt_of_le (hE.stay b hb).1 hW.size,(hE.stay b hb).2⟩
  ·intro r hr;exact (hE.dom r).1 hr
  ·intro r o b hr hb;exact .inl ⟨r,o,hr,hb⟩
  ·intro r hr;exact ⟨rfl,rfl⟩
  intro r hr;exact (hE.dom r).2 hr
 have hin:InY E.S J' (Fy { E with w:=W } objs k) (true,[]) (El E objs):=⟨rfl,fun b hb=>hb,fun b hb=> .inr hb,by subst hJ';exact hJ0⟩;refine calls_of_wp hf hb (wp_mono (h l E.S J' hR _ _ X _ _ hin hrel) ?_);rintro e a' w' ⟨C',E',X',σ',g',Z',rfl,h2,h3,h4,h5,h6⟩;have hd:a'.defers=[]:=h3.defers.trans h2.dfr
 have hres:∃ y,(results fn a'.tmps).run P E'.w= .ok y E'.w:=by
  refine ⟨.tuple #[],?_⟩
  unfold results
  simp [hrs]
 have hj:=hR.step _ _ _ _ h2.j (h3.kept.mono h2.own)
 have fin:(∃ v,Ending.returned (.tuple #[])= .returned v)∧((∃ xs Z,S xs∧J xs Z E'.w)∨(∃ pre Z,Sp pre∧Jx pre Z E'.w)):=by
  refine ⟨⟨_,rfl⟩,?_⟩;subst hJ'
  rcases g' with ⟨b,pre⟩
  cases b
  ·exact .inr ⟨pre,_,h6 rfl,hj⟩
  exact .inl ⟨pre,_,h5 rfl,hj⟩
 have hr2:(results fn a'.tmps).run P E'.w= .ok (.tuple #[]) E'.w:=by
  unfold results
  simp [hrs]
 rcases h4 with rfl | rfl
 ·exact ⟨hd,_,hr2,fin⟩
 exact ⟨hd,_,hr2,fin⟩
theorem RndH.plain {α:Type} {P:Program} {l:Nat} {encs:α→Array Value} {N:List α→α→(Nat→Prop)→(Nat→Prop)→World→Prop} {S0:Nat→Prop} {J:Bool × List α→(Nat→Prop)→World→Prop} (h:RndH P l encs N S0 J):Rnd P l encs (fun pre x=>∀ Z A,N pre x Z Z A) S0 J :=
 ⟨h.step,fun pre Z x A h1 h2=>h.round pre Z Z x A h1 (fun _ h=>h) (h2 Z A)⟩
def QE (sz:Nat) (rows:List (List AV)) (v:Value) (Z Z':Nat→Prop) (A:World):Prop :=
 ∃ E0:Env,E0.w=A∧(∀ b,E0.S b→Z b∧¬ Z' b)∧FV E0.clear (.sh sz rows) v
def litL:List AV→Bool
 |[]=>true
 |.lit _ :: l=>litL l
 |_=>false
theorem Qr {E E':Env}:∀ {cs:List AV} {xs:List Value},litL cs=true→FVc E cs xs→FVc E' cs xs
 |[],xs,_,h=>by simpa [FVc] using h
 |.lit v :: l,xs,h,hx=>by
  simp only [FVc,FV] at hx ⊢;obtain ⟨y,ys,h1,h2,h3,h4⟩:=hx;exact ⟨y,ys,h1,h2,h3,Qr h h4⟩
 |.top :: _,_,h,_=>by cases h
 |.agg _ :: _,_,h,_=>by cases h
 |.tup _ :: _,_,h,_=>by cases h
 |.sh _ _ :: _,_,h,_=>by cases h
 |.sadr _ _ :: _,_,h,_=>by cases h
 |.als _ _ _ :: _,_,h,_=>by cases h
 |.adr _ _ _ :: _,_,h,_=>by cases h
 |.fn _ _ _ :: _,_,h,_=>by cases h
 |.hd _ :: _,_,h,_=>by cases h
 |.shm _ _ :: _,_,h,_=>by cases h
 |.rem _ _ _ :: _,_,h,_=>by cases h
theorem Qt {E E':Env} {sz:Nat}:∀ {rows:List (List AV)} {xs:List Value},(∀ r ∈ rows,litL r=true)→FVr E sz rows xs→FVr E' sz rows xs
 |[],xs,_,h=>by simpa [FVr] using h
 |row :: rows,xs,h,hx=>by
  simp only [FVr] at hx ⊢;obtain ⟨ys,zs,h1,h2,h3,h4⟩:=hx;exact ⟨ys,zs,h1,h2,Qr (h row (by simp)) h3,Qt (fun r hr=>h r (by simp [hr])) h4⟩
inductive KeptC (s:List (Nat × AV)):List Nat→List (Nat × AV)→Prop
 |n:KeptC s [] []
 |c {k:Nat} {ks:List Nat} {v:AV} {l:List (Nat × AV)} (h:KeptC s ks l) (hs:Al s k=some v:=by exact rfl) (hc:closedAV v=true:=by exact rfl):KeptC s (k :: ks) ((k,v) :: l)
theorem KeptC.spec {s:List (Nat × AV)} {ks:List Nat} {l:List (Nat × AV)} (h:KeptC s ks l):∀ q v,Al l q=some v→Al s q=some v∧closedAV v=true:=by
 induction h with
 |n=>intro q v hf;simp [Al] at hf
 |c h hs hc ih =>
  intro q v hf;rw [A8] at hf
  split at hf
  ·rename_i e
   simp only [Option.some.injEq] at hf;subst e hf;exact ⟨hs,hc⟩
  exact ih q v hf
def YG {α:Type} (P:Program) (ops:Array Oper) (l:Nat) (l2:List Oper) (zs:List Operand) (y d:Nat) (encs:α→Array Value) (N:List α→α→(Nat→Prop)→(Nat→Prop)→World→Prop) (pre:List α) (Q:Bool→List α→St→Prop) (σ:St):Prop :=
 ∃ z1 z2 s s2 ks r el sz rows n nt k,zs=[z1,z2]∧σ=⟨s,[(r,⟨true,el,sz,rows,true⟩)],n,nt,0⟩∧AJ s (.tmp y)=some (.lit (.func (.yield l) #[] #[]))∧AJ s z1=some (.lit k)∧(∃ m,AJ s z2=some (.als r 0 m)∧rows.length=m) ∧
  (∀ q ∈ rows,litL q=true)∧KeptC s ks s2∧d < nt ∧
  ∀ v,∃ x:α,encs x= #[k,v]∧(∀ Z Z' A,QE sz rows v Z Z' A→N pre x Z Z' A)∧∀ b,SeqL P ops l2 ⟨(d, .lit (.bool b)) :: s2,[],n,nt,0⟩ (Q b (pre ++ [x]))
theorem Sd {α:Type} {P:Program} {l:Nat} {N:List α→α→(Nat→Prop)→(Nat→Prop)→World→Prop} {encs:α→Array Value} {S0:Nat→Prop} {J:Bool × List α→(Nat→Prop)→World→Prop} (hR:RndH P l encs N S0 J) {σ0:St} {pre:List α} {Q:Exit→St→Bool × List α→Prop}
 {id d y ty:Nat} {zs:List Operand} {ts:Array TypeId} {pos:String} {aft:Array Edge} {l2:List Oper} (l1:List Oper)
 (h:∀ K:St→Prop,(∀ σ,YG P ⟨l1 ++ ⟨some d, .call { callee:= .value (.tmp y),args:=⟨zs⟩,argTypes:=ts },ty,pos,aft,none⟩ :: l2⟩ l l2 zs y d encs N pre (fun b xs σ'=>Q .normal σ' (b,xs)) σ→K σ)→SeqL P ⟨l1 ++ ⟨some d, .call { callee:= .value (.tmp y),args:=⟨zs⟩,argTypes:=ts },ty,pos,aft,none⟩ :: l2⟩ l1 σ0 K) :
 EvY P S0 J (.region id ⟨l1 ++ ⟨some d, .call { callee:= .value (.tmp y),args:=⟨zs⟩,argTypes:=ts },ty,pos,aft,none⟩ :: l2⟩ false) σ0 (true,pre) Q:=by
 intro C E0 X0 a0 Z hi hr0;refine (wpIn_wide (n:=1)).1 (wpIn_region_list (FK l1 _ _ (h _ (fun _ h=>h) C E0 X0 a0 hr0 _ ?_)));rintro E X σ a hr ⟨z1,z2,s,s2,ks,r,el,sz,rows,n,nt,k,rfl,rfl,hy,hz1,⟨m,hz2,rfl⟩,hlit,hks,hd,hx⟩;refine ⟨rfl,?_⟩;have hs2:=hks.spec;have hk:Keep Z C.w0 E.w:=hr.kept.mono hi.own;have hj:=hR.step _ _ _ _ hi.j hk;obtain ⟨Z1,hZ1⟩:∃ Z1,GZ Z C.w0 E.w=Z1:=⟨_,rfl⟩;rw [hZ1] at hj
 have hown:∀ b,C.own b∨C.w0.heap.size≤b→b < E.w.heap.size→Z1 b:=fun b hb hlt=>by
  rw [← hZ1]
  rcases hb with hb | hb
  ·exact .inl (hi.own b hb)
  exact .inr ⟨hb,hlt⟩
 have hSZ:∀ b,E.S b→Z1 b∨S0 b:=fun b hb=>by
  rcases hr.grow b hb with h | h | h
  ·rcases hi.S0 b h with h | h
   ·rw [← hZ1];exact .inl (.inl h)
   exact .inr h
  ·exact .inl (hown b (.inr h) (hr.stay b hb).1)
  exact .inl (hown b (.inl h) (hr.stay b hb).1)
 have hfr:Al [(r,(⟨true,el,sz,rows,true⟩:AM.Obj))] r=some ⟨true,el,sz,rows,true⟩:=by simp [Al]
 have hF:∀ b,blockOf (E.H r)=some b→Z1 b:=fun b hb=>hown b (hr.mine r _ b hfr hb) ((hr.objs r _ hfr).2.2.1.lt hb);obtain ⟨Z2,hZ2⟩:∃ Z2:Nat→Prop,Z2=fun b=>Z1 b∧blockOf (E.H r)≠some b:=⟨_,rfl⟩
 have hzz:∀ b,Z2 b→Z1 b:=fun b hb=>by rw [hZ2] at hb;exact hb.1
 have hyv:=hr.ev (.tmp y);rw [AB hy] at hyv;simp only [FV] at hyv;have hv1:=hr.ev z1;rw [AB hz1] at hv1;simp only [FV] at hv1;have hv2:=hr.ev z2;rw [AB hz2] at hv2;simp only [FV] at hv2;obtain ⟨hDr,A0,n0,c0,A,c,hH,hxe,hnc,hA,hA2⟩:=hv2;obtain ⟨rfl,rfl⟩:=hA rfl;obtain ⟨x,hex,hN,hseq⟩:=hx (a.eval z2)
 have hg:QE sz rows (a.eval z2) Z1 Z2 E.w:=by
  obtain ⟨h1,h2,h3,h4⟩:=hr.objs r _ hfr;refine ⟨{ E with S:=fun b=>blockOf (E.H r)=some b },rfl,fun b hb=>⟨hF b hb,fun h=>by rw [hZ2] at h;exact h.2 hb⟩,?_⟩;simp only [FV];refine ⟨A,c,X r,hxe,hnc,Qt hlit h4,fun hne=>?_⟩;have hpos:0 < rows.length:=List.length_pos_iff.2 hne;obtain ⟨b0,e0,e1,e2⟩:=hA2 hpos
  have hb0:baseOf (E.H r)=some b0:=by rw [hH];exact e0
  have hh:=h3.holds hb0;exact ⟨b0,e0,e1,DA hb0,hh.2⟩
 obtain ⟨fn,tmps,assign,body,hrun,hround⟩:=hR.round pre Z1 Z2 x E.w hj hzz (hN _ _ _ hg)
 have fin:∀ (b:Bool) (B:World),Keep (fun b=>¬ (Z2 b∨S0 b)) E.w B→Rel { C.at E ⟨s2,[],n,nt,0⟩ with w0:=B } { E with w:=B,D:=fun _=>False } X ⟨(d, .lit (.bool b)) :: s2,[],n,nt,0⟩ (a.put (some d) (.bool b)):=by
  intro b B hB
  have hSB:∀ b,E.S b→B.heap[b]?= E.w.heap[b]?:=fun b hb=>hB.block b (hr.stay b hb).1 fun h=>h (by
   rcases hSZ b hb with h1 | h1
   ·left;rw [hZ2];exact ⟨h1,fun e=>(hr.stay b hb).2 r _ hfr e⟩
   exact .inr h1)
  have hle:E.clear.le { E with w:=B,D:=fun _=>False }:=⟨fun b hb=>⟨hb,hSB b hb⟩,fun r hr=>hr.elim⟩;have hle2:E.le { E with w:=B }:=⟨fun b hb=>⟨hb,hSB b hb⟩,fun r hr=>⟨hr,rfl,rfl⟩⟩;have hck:C.k=0:=hr.envk
  have h0:Rel { C.at E ⟨s2,[],n,nt,0⟩ with w0:=B } { E with w:=B,D:=fun _=>False } X ⟨s2,[],n,nt,0⟩ a :=
   ⟨fun q v hv=>FV.le _ hle _ (FV.closed (hs2 q v hv).2 (hr.slots q v (hs2 q v hv).1)),hr.size,hr.defers,fun r o h=>by simp [Al] at h,fun r r' o o' b h=>by simp [Al] at h,
     fun b hb=>⟨Nat.lt_of_lt_of_le (hr.stay b hb).1 hB.size,fun r o h=>by simp [Al] at h⟩,fun r h=>h.elim,Keep.refl _ _,fun r o b h1 h2=>by simp [Al] at h1,hr.env,fun r h=>(by have h':r < C.k:=h;rw [hck] at h';exact absurd h' (Nat.not_lt_zero _)),fun b hb=>hb,fun b hb=> .inl hb,hr.envk,hr.glob.le (E':={ E with w:=B }) hle2⟩
  exact h0.put (some d) (fun d' e=>by cases e;exact hd) (v:= .lit (.bool b)) (by simp [FV])
 have hin:∀ (b:Bool) (B:World) g',J g' Z2 B→InY S0 J { C.at E ⟨s2,[],n,nt,0⟩ with w0:=B } g' Z2:=fun b B g' hj =>
  ⟨hi.dfr,fun b ⟨r,o,h1,h2⟩=>by simp [Al] at h1,fun b hb=>by
    rcases hSZ b hb with h1 | h1
    ·left;rw [hZ2];exact ⟨h1,fun e=>(hr.stay b hb).2 r _ hfr e⟩
    exact .inr h1,hj⟩
 simp only [wpListIn];rw [if_pos (by simp [Region.wanted])];refine ⟨fun _ _=>trivial,?_⟩;have he:(⟨some d, .call { callee:= .value (.tmp y),args:=⟨[z1,z2]⟩,argTypes:=ts },ty,pos,aft,none⟩:Oper).semAt Fence.wide.round a.eval=execOp a.eval ⟨some d, .call { callee:= .value (.tmp y),args:=⟨[z1,z2]⟩,argTypes:=ts },ty,pos,aft,none⟩:=rfl;rw [he]
 have hr1:(execOp a.eval ⟨some d, .call { callee:= .value (.tmp y),args:=⟨[z1,z2]⟩,argTypes:=ts },ty,pos,aft,none⟩).run P E.w= .ok (.round l fn tmps assign body) E.w:=by
  unfold execOp
  simp only [resolve,invoke,Sem.run_bind,Sem.run_pure,Result.andThen_ok,List.map_toArray,hyv,List.map_cons,List.map_nil,hv1];rw [hex] at hrun
  simpa [go_sem] using hrun
 rw [hr1];refine ⟨fun h=>by simp [Fence.wide] at h,?_⟩;refine hround.mono ?_
 have fin2:∀ (b:Bool) (B:World),J (b,pre ++ [x]) Z2 B→Keep (fun b=>¬ (Z2 b∨S0 b)) E.w B →
  wpListIn Fence.wide 1 P ⟨l1 ++ ⟨some d, .call { callee:= .value (.tmp y),args:=⟨[z1,z2]⟩,argTypes:=ts },ty,pos,aft,none⟩ :: l2⟩ (fun e a' w'=>∃ C' E' X' σ' g' Z',E'.w=w'∧InY S0 J C' g' Z'∧Rel C' E' X' σ' a'∧Q e σ' g') l2 (a.put (some d) (.bool b)) B:=by
  intro b B hj' hB
  have:=FK (n:=1) (l2:=[]) l2 _ _ (hseq b _ _ _ _ (fin b B hB) (fun e a' w'=>e= .normal∧wpListIn Fence.wide 1 P ⟨l1 ++ ⟨some d, .call { callee:= .value (.tmp y),args:=⟨[z1,z2]⟩,argTypes:=ts },ty,pos,aft,none⟩ :: l2⟩ (fun e a' w'=>∃ C' E' X' σ' g' Z',E'.w=w'∧InY S0 J C' g' Z'∧Rel C' E' X' σ' a'∧Q e σ' g') [] a' w')
   (fun E' X' σ' a' h1 h2=>⟨rfl,by simp only [wpListIn];exact ⟨_,E',X',σ',_,Z2,rfl,hin b B _ hj',h1,h2⟩⟩))
  rwa [List.append_nil] at this
 rintro e B ⟨hB,⟨rfl,hj'⟩ | ⟨rfl,hj'⟩⟩
 ·exact fin2 true B hj' hB
 exact fin2 false B hj' hB
theorem Se {α:Type} {P:Program} {l:Nat} {N:List α→α→(Nat→Prop)→(Nat→Prop)→World→Prop} {encs:α→Array Value} {S0:Nat→Prop} {J:Bool × List α→(Nat→Prop)→World→Prop} (hR:RndH P l encs N S0 J) {σ0:St} {pre:List α} {Q:Exit→St→Bool × List α→Prop}
 {id d y ty:Nat} {zs:List Operand} {ts:Array TypeId} {pos:String} {aft:Array Edge} {l1:List Oper} (i:Nat)
 (ho:l1[i]?= some ⟨some d, .call { callee:= .value (.tmp y),args:=⟨zs⟩,argTypes:=ts },ty,pos,aft,none⟩)
 (h:∀ K:St→Prop,(∀ σ,YG P ⟨l1⟩ l (l1.drop (i+1)) zs y d encs N pre (fun b xs σ'=>Q .normal σ' (b,xs)) σ→K σ)→SeqL P ⟨l1⟩ (l1.take i) σ0 K) :
 EvY P S0 J (.region id ⟨l1⟩ false) σ0 (true,pre) Q:=by
 obtain ⟨hlt,he⟩:=List.getElem?_eq_some_iff.1 ho
 have e:l1=l1.take i ++ ⟨some d, .call { callee:= .value (.tmp y),args:=⟨zs⟩,argTypes:=ts },ty,pos,aft,none⟩ :: l1.drop (i+1):=by
  rw [← he,List.getElem_cons_drop,List.take_append_drop]
 have:=Sd hR (σ0:=σ0) (pre:=pre) (Q:=Q) (id:=id) (d:=d) (y:=y) (ty:=ty) (zs:=zs) (ts:=ts) (pos:=pos) (aft:=aft) (l2:=l1.drop (i+1)) (l1.take i);rw [← e] at this;exact this h
theorem Sf {α:Type} {P:Program} {l:Nat} {N:List α→α→(Nat→Prop)→(Nat→Prop)→World→Prop} {encs:α→Array Value} {S0:Nat→Prop} {J:Bool × List α→(Nat→Prop)→World→Prop} (hR:RndH P l encs N S0 J) {σ0:St} {pre:List α} {Q:Exit→St→Bool × List α→Prop} {c:Code}
 {id d y ty:Nat} {zs:List Operand} {ts:Array TypeId} {pos:String} {aft:Array Edge} {l1:List Oper} (i:Nat)
 (ho:l1[i]?= some ⟨some d, .call { callee:= .value (.tmp y),args:=⟨zs⟩,argTypes:=ts },ty,pos,aft,none⟩)
 (h:∀ K:St→Prop,(∀ σ,YG P ⟨l1⟩ l (l1.drop (i+1)) zs y d encs N pre (fun b xs σ'=>EvY P S0 J c σ' (b,xs) Q) σ→K σ)→SeqL P ⟨l1⟩ (l1.take i) σ0 K) :
 EvY P S0 J (.seq (.region id ⟨l1⟩ false) c) σ0 (true,pre) Q:=DK (Se hR i ho h)
theorem SeqRH.of {α:Type} {P:Program} {gf:FuncId} {fn:Func} {c:Code} {caps:List AV} {objs:List (Nat × Obj)} {k nt:Nat} {N:List α→α→(Nat→Prop)→(Nat→Prop)→World→Prop} {encs:α→Array Value} {S Sp:List α→Prop}
 (hf:P.funcs[gf]?= some fn) (hb:fn.body=some c) (ht:fn.ntmps=nt) (hrs:fn.results= #[]) (hnm:(fn.name == "runtime.NumGoroutine")=false) (hn:Nat.ble (caps.length+1) nt=true)
 (h:∀ l S0 (J:Bool × List α→(Nat→Prop)→World→Prop),RndH P l encs N S0 J→EvY P S0 J c ⟨argSlots 0 (.lit (.func (.yield l) #[] #[]) :: caps),objs,k,nt,k⟩ (true,[]) (fun e σ' g'=>(e= .normal∨e= .ret)∧(g'.1=true→S g'.2)∧(g'.1=false→Sp g'.2))) :
 SeqRH P gf caps objs k encs S Sp N:=SeqRH.of_body hf hb hnm hrs (by rw [ht];exact CG hn) (by rw [ht];exact h)
def TQ (P:Program) (d:Deferred):Prop:=∃ fv cap f args,d.target= .fn fv cap∧(∀ w,(invoke d.target d.args).run P w= .ok (.enter f args) w) ∧
 ∀ w,CallsDIn Fence.wide 0 P f args .returning w fun e u' w'=>(∃ v,e= .returned v)∧u'= .returning∧w'=w
structure MarksOK (P:Program) (C:Ctx) (E:Env) (σ:St) (ds:List Deferred):Prop where
 each:∀ d ∈ ds,TQ P d∨∃ D,d={ target:= .collected D,args:= #[] }∧Mark C E σ D
 nd:ds.Pairwise fun d d'=>∀ D,d.target= .collected D→d'.target≠ .collected D
theorem MarksOK.nil {P:Program} {C:Ctx} {E:Env} {σ:St}:MarksOK P C E σ []:=⟨(fun d h=>by cases h),List.Pairwise.nil⟩
theorem Mark.carry {C:Ctx} {E E':Env} {X X':Nat→List Value} {σ σ':St} {a a':Act} (hr:Rel C E X σ a) (h3:Rel (C.at E σ) E' X' σ' a') {D:Nat} (hM:Mark C E σ D):Mark C E' σ' D:=by
 have hlt:D < E.w.heap.size:=(Array.getElem?_eq_some_iff.1 hM.at_).1;have hDo:¬ (∃ r q,Al σ.objs r=some q∧blockOf (E.H r)=some D):=fun ⟨r,q,h1,h2⟩=>hM.ob r q h1 h2;refine ⟨hM.new,fun hS=>?_,fun r q h1 h2=>?_,(h3.kept.block D hlt hDo).trans hM.at_⟩
 ·rcases h3.grow D hS with h6 | h6 | h6
  ·exact hM.fr h6
  ·have h7:E.w.heap.size≤D:=h6;omega
  exact hDo h6
 rcases h3.mine r q D h1 h2 with h6 | h6
 ·exact hDo h6
 have h7:E.w.heap.size≤D:=h6;omega
theorem MarksOK.carry {P:Program} {C:Ctx} {E E':Env} {X X':Nat→List Value} {σ σ':St} {a a':Act} {ds:List Deferred} (hr:Rel C E X σ a) (h3:Rel (C.at E σ) E' X' σ' a') (hm:MarksOK P C E σ ds):MarksOK P C E' σ' ds :=
 ⟨fun d hd=>(hm.each d hd).imp (fun h=>h) fun ⟨D,e,h⟩=>⟨D,e,h.carry hr h3⟩,hm.nd⟩
theorem Rel.dfrAs {C:Ctx} {E:Env} {X:Nat→List Value} {σ:St} {a:Act} (h:Rel C E X σ a) (ds:List Deferred):Rel { C with dfr:=ds } E X σ { a with defers:=ds } :=
 ⟨h.slots,h.size,rfl,h.objs,h.apart,h.stay,h.fresh,h.kept,h.mine,h.env,h.envD,h.base,h.grow,h.envk,h.glob⟩
def QD (P:Program) (C:Ctx) (Q:Exit→St→Prop) (e:Exit) (a':Act) (w':World):Prop:=∃ E' X' σ',E'.w=w'∧Rel C E' X' σ' { a' with defers:=[] }∧MarksOK P C E' σ' a'.defers∧Q e σ'
def EvD (P:Program) (c:Code) (σ:St) (Q:Exit→St→Prop):Prop:=∀ C E X a,TopC C→Rel C E X σ { a with defers:=[] }→MarksOK P C E σ a.defers→c.wp P (QD P C Q) a E.w
section
variable {P:Program} {σ:St} {Q:Exit→St→Prop}
theorem EvD.of {c:Code} (h:Ev P c σ Q):EvD P c σ Q:=by
 intro C E X a hC hr hm;have hb:=hr.rebase;have hr2:Rel { C.at E σ with dfr:=a.defers } E X σ a:=hb.dfrAs a.defers;refine wp_mono (h _ E X _ hr2) ?_;rintro e a' w' ⟨E',X',σ',rfl,h3,h4⟩;have hd:a'.defers=a.defers:=h3.defers
 have h5:Rel (C.at E σ) E' X' σ' { a' with defers:=[] }:=by
  have:=h3.dfrAs [];have e2:C.dfr=[]:=hC.dfr;have e3:({ C.at E σ with dfr:=a.defers }:Ctx).dfr=a.defers:=rfl;refine ⟨this.slots,this.size,hC.dfr.symm,this.objs,this.apart,this.stay,this.fresh,this.kept,this.mine,this.env,this.envD,this.base,this.grow,this.envk,this.glob⟩
 exact ⟨E',X',σ',rfl,hr.unbase h5,by rw [hd];exact hm.carry hr h5,h4⟩
theorem EvD.seq {x y:Code} (h:EvD P x σ (GF (fun σ'=>EvD P y σ' Q) Q)):EvD P (.seq x y) σ Q:=by
 intro C E X a hC hr hm;refine wp_seq (wp_mono (h C E X a hC hr hm) ?_);rintro e a' w' ⟨E',X',σ',rfl,h2,h3,h4⟩
 cases e <;> simp only [Exit.then,GF] at h4 ⊢
 case normal=>exact h4 C E' X' a' hC h2 h3
 all_goals exact ⟨E',X',σ',rfl,h2,h3,h4⟩
theorem EvD.split {x y:Code} (h:Ev P x σ (GF (fun σ'=>EvD P y σ' Q) Q)):EvD P (.seq x y) σ Q:=EvD.seq (EvD.of h)
theorem EvD.weaken {c:Code} {σ':St} (hw:Wk σ σ') (h:EvD P c σ' Q):EvD P c σ Q:=by
 intro C E X a hC hr hm;obtain ⟨E',X',e,hr'⟩:=hw _ _ _ _ hr.rebase;rw [← e];exact h C E' X' a hC (hr.unbase hr') (hm.carry hr hr')
theorem EvD.block {id:Nat} {c:Code} (h:EvD P c σ (D2 id Q)):EvD P (.block id c) σ Q:=by
 intro C E X a hC hr hm;refine wp_block (wp_mono (h C E X a hC hr hm) ?_);rintro e a' w' ⟨E',X',σ',rfl,h2,h3,h4⟩
 cases e <;> simp only [Exit.inBlock,D2] at h4 ⊢
 case exit id' =>
  split
  ·rename_i e
   simp only [e,if_true] at h4;exact ⟨E',X',σ',rfl,h2,h3,h4⟩
  rename_i e
  simp only [e,if_false] at h4;exact ⟨E',X',σ',rfl,h2,h3,h4⟩
 all_goals exact ⟨E',X',σ',rfl,h2,h3,h4⟩
theorem EvD.loop {c:Code} {ι:Type} (I:ι→St) (μ:ι→Nat) (x0:ι) (h0:Wk σ (I x0)) (round:∀ x,EvD P c (I x) (FH I μ x Q)):EvD P (.loop c) σ Q:=by
 refine EvD.weaken h0 ?_;intro C E X a hC hr hm
 have key:∀ n x E X a,μ x < n→Rel C E X (I x) { a with defers:=[] }→MarksOK P C E (I x) a.defers→Code.rounds P c (QD P C Q) n a E.w:=by
  intro n
  induction n with
  |zero=>intro x E X a h;omega
  |succ n ih =>
   intro x E X a h hr hm;rw [rounds_succ];refine wp_mono (round x C E X a hC hr hm) ?_;rintro e a' w' ⟨E',X',σ',rfl,h2,h3,h4⟩
   cases e <;> simp only [Exit.then,FH] at h4 ⊢
   case normal =>
    obtain ⟨y,hy,hw⟩:=h4;obtain ⟨E'',X'',e,hr'⟩:=hw _ _ _ _ h2.rebase;rw [← e];exact ih y E'' X'' a' (by omega) (h2.unbase hr') (h3.carry h2 hr')
   all_goals exact ⟨E',X',σ',rfl,h2,h3,h4⟩
 exact wp_loop_rounds _ (key (μ x0+1) x0 E X a (by omega) hr hm)
end
structure MarkZ (C:Ctx) (E:Env) (o:List (Nat × Obj)) (Z:Nat→Prop) (D:Nat):Prop where
 new:C.w0.heap.size≤D
 fr:¬ E.S D
 ob:∀ r q,Al o r=some q→blockOf (E.H r)≠some D
 at_:E.w.heap[D]?= some (.deferred (some []))
 nz:¬ Z D
theorem MarkZ.step {C:Ctx} {E:Env} {o:List (Nat × Obj)} {Z:Nat→Prop} {D:Nat} (h:MarkZ C E o Z D) {B:World} (hk:Keep Z E.w B):MarkZ C { E with w:=B } o (GZ Z E.w B) D:=by
 have hlt:=(Array.getElem?_eq_some_iff.1 h.at_).1
 exact ⟨h.new,h.fr,h.ob,(hk.block D hlt h.nz).trans h.at_,fun hz=>by
  rcases hz with hz | hz
  ·exact h.nz hz
  omega⟩
theorem MarkZ.leave {C:Ctx} {E E':Env} {X':Nat→List Value} {o o':List (Nat × Obj)} {Z:Nat→Prop} {D K n' nt:Nat} {s:List (Nat × AV)} {a':Act} (h:MarkZ C E o Z D) (h':Rel (I7 E o K) E' X' ⟨s,o',n',nt,K⟩ a'):MarkZ C E' o' Z D:=by
 have hlt:D < E.w.heap.size:=(Array.getElem?_eq_some_iff.1 h.at_).1;have hDo:¬ El E o D:=fun ⟨r,q,h1,h2⟩=>h.ob r q h1 h2;refine ⟨h.new,fun hS=>?_,fun r q h1 h2=>?_,(h'.kept.block D hlt hDo).trans h.at_,h.nz⟩
 ·rcases h'.grow D hS with h6 | h6 | h6
  ·exact h.fr h6
  ·have h7:E.w.heap.size≤D:=h6;omega
  exact hDo h6
 rcases h'.mine r q D h1 h2 with h6 | h6
 ·exact hDo h6
 have h7:E.w.heap.size≤D:=h6;omega
def parS:List Nat→List AV→List (Nat × AV)→List (Nat × AV)
 |p :: ps,v :: vs,s=>parS ps vs ((p,v) :: s)
 |_,_,s=>s
theorem Rel.par {C:Ctx} {E:Env} {X:Nat→List Value} {o:List (Nat × Obj)} {n nt e:Nat}:∀ (ps:List Nat) (vs:List AV) (xs:List Value) {s:List (Nat × AV)} {a:Act},Rel C E X ⟨s,o,n,nt,e⟩ a→FVs E vs xs→(∀ p ∈ ps,p < nt)→ps.length=xs.length →
 Rel C E X ⟨parS ps vs s,o,n,nt,e⟩ { a with tmps:=(ps.zip xs).foldl (fun t (q:Nat × Value)=>t.setIfInBounds q.1 q.2) a.tmps }
 |[],vs,xs,s,a,h,_,_,_=>by
  have e:parS [] vs s=s:=by cases vs <;> rfl
  rw [e];exact h
 |p :: ps,[],xs,s,a,h,hv,_,hl=>by
  simp only [FVs] at hv;subst hv
  simp at hl
 |p :: ps,v :: vs,xs,s,a,h,hv,hp,hl=>by
  simp only [FVs] at hv;obtain ⟨y,ys,rfl,h1,h2⟩:=hv;have h3:=h.put (some p) (fun d' e=>by cases e;exact hp p (by simp)) h1;have h4:=Rel.par ps vs ys h3 h2 (fun q hq=>hp q (by simp [hq])) (by simpa using hl);exact h4
theorem RI.adopt {C:Ctx} {s0:List (Nat × AV)} {o:List (Nat × Obj)} {n nt:Nat} {S0:Nat→Prop} {a:Act} {Z:Nat→Prop} {E:Env} {X:Nat→List Value} (h:RI C s0 o n nt S0 a Z E X) {E0:Env} (hw:E0.w=E.w) {Z':Nat→Prop} (hz:∀ b,Z' b→Z b) (hF:∀ b,E0.S b→Z b∧¬ Z' b) :
 RI C s0 o n nt S0 a Z' { E with S:=fun b=>E.S b∨E0.S b } X:=by
 have hle:E.le { E with S:=fun b=>E.S b∨E0.S b }:=⟨fun b hb=>⟨.inl hb,rfl⟩,fun r hr=>⟨hr,rfl,rfl⟩⟩;have hr:=h.rel;refine ⟨⟨fun k v hv=>FV.le _ hle _ (hr.slots k v hv),hr.size,hr.defers,fun r p h1=>⟨(hr.objs r p h1).1,(hr.objs r p h1).2.1,(hr.objs r p h1).2.2.1,FVr.le _ _ (hle.by _) _ (hr.objs r p h1).2.2.2⟩,hr.apart,fun b hb=>?_,hr.fresh,hr.kept,hr.mine,hr.env,hr.envD,fun b hb=> .inl (hr.base b hb),fun b hb=>?_,hr.envk,hr.glob.le hle⟩,fun b hb=> .inl (h.S0 b hb),fun b hb=>h.lt b (hz b hb),fun b hb=>h.new b (hz b hb),fun b hb hs=>?_,fun b hb=>h.ob b (hz b hb)⟩
 ·rcases hb with hb | hb
  ·exact hr.stay b hb
  exact ⟨h.lt b (hF b hb).1,h.ob b (hF b hb).1⟩
 ·rcases hb with hb | hb
  ·exact hr.grow b hb
  exact .inr (.inl (h.new b (hF b hb).1))
 rcases hs with hs | hs
 ·exact h.fr b (hz b hb) hs
 exact (hF b hs).2 hb
theorem RI.enterP {C:Ctx} {s0:List (Nat × AV)} {o:List (Nat × Obj)} {n nt:Nat} {S0:Nat→Prop} {a:Act} {Z:Nat→Prop} {E:Env} {X:Nat→List Value} (h:RI C s0 o n nt S0 a Z E X) {K:Nat} (hK:∀ r,r < K→∃ q,Al o r=some q) {ps:List Nat} {vs:List AV} {xs:List Value} (hv:FVs E vs xs) (hp:∀ p ∈ ps,p < nt) (hl:ps.length=xs.length) :
 Rel (I7 E o K) E X ⟨parS ps vs s0,o,n,nt,K⟩ { tmps:=(ps.zip xs).foldl (fun t (q:Nat × Value)=>t.setIfInBounds q.1 q.2) a.tmps,defers:=[] }:=by
 have hr:=h.rel
 have h0:Rel (I7 E o K) E X ⟨s0,o,n,nt,K⟩ { tmps:=a.tmps,defers:=[] } :=
  ⟨hr.slots,hr.size,rfl,hr.objs,hr.apart,hr.stay,hr.fresh,Keep.refl _ _,fun r q b h1 h2=> .inl ⟨r,q,h1,h2⟩,fun r _=>⟨rfl,rfl⟩,fun r hk=>by
    obtain ⟨q,hq⟩:=hK r hk
    exact (hr.objs r q hq).1,fun b hb=>hb,fun b hb=> .inl hb,rfl,hr.glob⟩
 exact h0.par ps vs xs hv hp hl
def Fs {α:Type} (G:List α→Prop) (O:List α→List (Nat × Obj)) (QX:Code→List α→List (Nat × Obj)→Prop) (n nt K:Nat) (xs:List α):Exit→St→Prop
 |.normal,σ'=>G xs∧∃ n',n'≤n∧Wk σ' ⟨[],O xs,n',nt,K⟩
 |.ret,σ'=>∃ n' o',n'≤n∧Wk σ' ⟨[],o',n',nt,K⟩∧QX .ret xs o'
 |.exit id,σ'=>∃ n' o',n'≤n∧Wk σ' ⟨[],o',n',nt,K⟩∧QX (.exit id) xs o'
 |_,_=>False
theorem EvD.range {α:Type} {P:Program} {s0:List (Nat × AV)} {b objs0:List (Nat × Obj)} {n nt K gs:Nat} {ps:List Nat} {N:List α→α→(Nat→Prop)→(Nat→Prop)→World→Prop} {gf:FuncId} {asg body:Code} {caps caps':List AV} {encs:α→Array Value} {S Sp:List α→Prop} {Q:Exit→St→Prop}
 (rs:List Nat) (G:List α→Prop) (O:List α→List (Nat × Obj)) (avs:α→List AV) (QX:Code→List α→List (Nat × Obj)→Prop) (hc:SeqRH P gf caps' objs0 rs.length encs S Sp N) (hg:Al s0 gs=none)
 (hh:EC ⟨(gs, .fn (.func gf) [] caps) :: s0,b,n,nt,0⟩ rs caps=some caps') (ho:ED rs caps=true) (hnd:rs.Nodup) (hk:BG ⟨(gs, .fn (.func gf) [] caps) :: s0,b,n,nt,0⟩ (pos rs 0) 0 rs=some objs0)
 (h0:∀ r q,Al (O []) r=some q→Al b r=some q∧r ∉ rs) (hK:∀ pre r,r < K→∃ q,Al (O pre) r=some q) (hs:stays K s0) (hp:∀ p ∈ ps,p < nt) (hps:∀ x,(encs x).size=ps.length)
 (hN:∀ pre x Z Z' A,N pre x Z Z' A→∃ E0:Env,E0.w=A∧(∀ b,E0.S b→Z b∧¬ Z' b)∧FVs E0.clear (avs x) (encs x).toList)
 (hG0:G []) (hround:∀ l m pre x,G pre→(∃ Z Z' A,N pre x Z Z' A)→EvI P l m asg ⟨parS ps (avs x) s0,O pre,n,nt,K⟩ (TT P l m body nt K (Fs G O QX n nt K (pre ++ [x]))))
 (hdone:∀ xs,S xs→G xs→Q .normal ⟨s0,O xs,n,nt,0⟩) (hret:∀ pre o',Sp pre→QX .ret pre o'→Q .ret ⟨s0,o',n,nt,0⟩) (hexit:∀ id pre o',Sp pre→QX (.exit id) pre o'→Q (.exit id) ⟨s0,o',n,nt,0⟩) :
 EvD P (.rangeFunc (.tmp gs) ⟨ps⟩ asg body) ⟨(gs, .fn (.func gf) [] caps) :: s0,b,n,nt,0⟩ Q:=by
 intro C E X aa hC hr hmk;obtain ⟨a,ha⟩:∃ a:Act,a={ aa with defers:=[] }:=⟨_,rfl⟩
 have hat:aa.tmps=a.tmps:=by rw [ha]
 rw [← ha] at hr;have hfn:=hr.slots gs (.fn (.func gf) [] caps) (by simp only [A8,if_true])
 have hsl:∀ k v,Al s0 k=some v→FV E v (a.tmps.getD k undef):=fun k v hv=>hr.slots k v (by
  simp only [A8]
  split
  ·rename_i e
   subst e;rw [hg] at hv
   cases hv
  exact hv)
 simp only [FV] at hfn;obtain ⟨x0,ys,hgv,hx0,hys⟩:=hfn;have hx0':x0= #[]:=Array.ext' (by simpa [FVs] using hx0);subst hx0';have hent:=hr.entry hnd (T:=true) hk;have hxh:=FVs.hand hr (T:=true) (fun _=>ho) hh hys;have hseq:=hc.2 _ _ _ hent hxh;have eg:∀ args w,(callFunc gf args).run P w= .ok (.enter gf args) w:=Iz hc.1
 have hZ:∀ c,El (E.hand ⟨(gs, .fn (.func gf) [] caps) :: s0,b,n,nt,0⟩ rs true) objs0 c→∃ r q,r ∈ rs∧Al b r=some q∧blockOf (E.H r)=some c:=by
  rintro c ⟨r,q,h1,h2⟩;obtain ⟨j,q1,_,hj,hj2,_⟩:=BB rs 0 objs0 hk r q h1;simp only [Nat.sub_zero] at hj;simp only [Env.hand,hj] at h2;exact ⟨j,q1,List.mem_of_getElem? hj,hj2,h2⟩
 have hS0:∀ c,(E.hand ⟨(gs, .fn (.func gf) [] caps) :: s0,b,n,nt,0⟩ rs true).S c→E.S c:=fun c h=>by
  rcases h with h | ⟨h,_⟩
  ·exact h
  cases h
 have hri0:RI C s0 (O []) n nt (E.hand ⟨(gs, .fn (.func gf) [] caps) :: s0,b,n,nt,0⟩ rs true).S a (El (E.hand ⟨(gs, .fn (.func gf) [] caps) :: s0,b,n,nt,0⟩ rs true) objs0) E X:=by
  refine ⟨⟨hsl,hr.size,hr.defers,fun r q h1=>hr.objs r q (h0 r q h1).1,fun r r' q q' c h1 h2=>hr.apart r r' q q' c (h0 r q h1).1 (h0 r' q' h2).1,fun c hc=>⟨(hr.stay c hc).1,fun r q h1=>(hr.stay c hc).2 r q (h0 r q h1).1⟩,hr.fresh,hr.kept,
   fun r q c h1=>hr.mine r q c (h0 r q h1).1,hr.env,hr.envD,hr.base,hr.grow,hr.envk,hr.glob⟩,hS0,fun c hz=>?_,fun c hz=>?_,fun c hz hS=>?_,fun c hz r q h1 h2=>?_⟩
  ·obtain ⟨r,q,_,h1,h2⟩:=hZ c hz;exact (hr.objs r q h1).2.2.1.lt h2
  ·obtain ⟨r,q,_,h1,h2⟩:=hZ c hz
   rcases hr.mine r q c h1 h2 with h3 | h3
   ·exact absurd h3 (hC.own c)
   exact h3
  ·obtain ⟨r,q,_,h1,h2⟩:=hZ c hz;exact (hr.stay c hS).2 r q h1 h2
  obtain ⟨r',q',hm,h3,h4⟩:=hZ c hz;have:=hr.apart r r' q q' c (h0 r q h1).1 h3 h2 h4;subst this;exact (h0 r q h1).2 hm
 have hmz0:∀ D,({ target:= .collected D,args:= #[] }:Deferred) ∈ aa.defers→MarkZ C E (O []) (El (E.hand ⟨(gs, .fn (.func gf) [] caps) :: s0,b,n,nt,0⟩ rs true) objs0) D:=fun D hD=>by
  rcases hmk.each _ hD with h1 | ⟨D',e,h1⟩
  ·obtain ⟨fv,cap,f,args,e,_⟩:=h1
   cases e
  cases e
  exact ⟨h1.new,h1.fr,fun r q h2=>h1.ob r q (h0 r q h2).1,h1.at_,fun hz=>by
   obtain ⟨r,q,_,h2,h3⟩:=hZ D hz
   exact h1.ob r q h2 h3⟩
 generalize hZe:El (E.hand ⟨(gs, .fn (.func gf) [] caps) :: s0,b,n,nt,0⟩ rs true) objs0=Z0 at *
 generalize hSe:(E.hand ⟨(gs, .fn (.func gf) [] caps) :: s0,b,n,nt,0⟩ rs true).S=S0 at *
 have hge:aa.eval (.tmp gs)= .func (.func gf) #[] ys.toList.toArray:=by
  have e:aa.eval (.tmp gs)=aa.tmps.getD gs undef:=rfl;rw [e,hat,hgv]
 have fin:∀ (e:Exit) (o':List (Nat × Obj)) (E':Env) (X':Nat→List Value) (D:Nat) (Z:Nat→Prop),RI C s0 o' n nt S0 a Z E' X'→(∀ D,({ target:= .collected D,args:= #[] }:Deferred) ∈ aa.defers→MarkZ C E' o' Z D)→Z D→E'.w.heap[D]?= some (.deferred (some []))→E.w.heap.size≤D→Q e ⟨s0,o',n,nt,0⟩ →
  QD P C Q e { aa with defers:={ target:= .collected D,args:= #[] } :: aa.defers } E'.w:=by
  intro e o' E' X' D Z h1 h2 hZD hat2 hsz hq;refine ⟨E',X',_,rfl,?_,⟨fun d hd=>?_,?_⟩,hq⟩
  ·have:=h1.rel;rw [ha] at this;exact this
  ·rcases List.mem_cons.1 hd with rfl | hd
   ·exact .inr ⟨D,rfl,⟨h1.new D hZD,h1.fr D hZD,h1.ob D hZD,hat2⟩⟩
   ·rcases hmk.each d hd with h3 | ⟨D',e,h3⟩
    ·exact .inl h3
    ·subst e;have h4:=h2 D' hd;exact .inr ⟨D',rfl,⟨h4.new,h4.fr,h4.ob,h4.at_⟩⟩
  ·refine .cons (fun d hd D' e1 e2=>?_) hmk.nd
   cases e1
   rcases hmk.each d hd with h3 | ⟨D',e,h3⟩
   ·obtain ⟨fv,cap,f,args,e,_⟩:=h3;rw [e] at e2
    cases e2
   ·subst e
    cases e2
    have:=(Array.getElem?_eq_some_iff.1 h3.at_).1;omega
 have core:∀ (E':Env) (X':Nat→List Value) (Z:Nat→Prop) (l m:Nat) (pre:List α) (x:α),G pre→RI C s0 (O pre) n nt S0 a Z E' X'→(∀ D,({ target:= .collected D,args:= #[] }:Deferred) ∈ aa.defers→MarkZ C E' (O pre) Z D)→FVs E' (avs x) (encs x).toList→Z l→(∃ Z Z' A,N pre x Z Z' A) →
  asg.wpIn (IU l) m P (Exit.then (fun a₁ A₁=>Keep (fun b=>¬ (Z b∨S0 b)) E'.w A₁∧∀ A₂,Keep (fun b=>b=l) A₁ A₂→A₂.heap.size=A₁.heap.size→body.wpIn (IU l) m P (Vy S0 (fun pre Z W=>G pre∧∃ E' X',E'.w=W∧RI C s0 (O pre) n nt S0 a Z E' X'∧∀ D,({ target:= .collected D,args:= #[] }:Deferred) ∈ aa.defers→MarkZ C E' (O pre) Z D)
   (fun c pre Z W=>(c= .ret∨∃ id,c= .exit id)∧∃ o' E' X',E'.w=W∧RI C s0 o' n nt S0 a Z E' X'∧(∀ D,({ target:= .collected D,args:= #[] }:Deferred) ∈ aa.defers→MarkZ C E' o' Z D)∧QX c pre o') (pre ++ [x]) Z A₂) a₁ A₂) (fun _ _ _=>False))
   { tmps:=((⟨ps⟩:Array Nat).zip (encs x)).foldl (fun t (p,v)=>t.setIfInBounds p v) aa.tmps,defers:=[] } E'.w:=by
  intro E' X' Z l m pre x hGp h1 hm hfv hl hlen
  have hlx:ps.length=(encs x).toList.length:=by rw [Array.length_toList];exact (hps x).symm
  have hen:=h1.enterP (K:=K) (hK pre) hfv hp hlx
  have etm:((⟨ps⟩:Array Nat).zip (encs x)).foldl (fun t (p,v)=>t.setIfInBounds p v) aa.tmps=(ps.zip (encs x).toList).foldl (fun t (q:Nat × Value)=>t.setIfInBounds q.1 q.2) a.tmps:=by
   rw [hat, ← Array.foldl_toList,Array.toList_zip]
  rw [etm];have key:=hround l m pre x hGp hlen _ _ _ _ hen;refine wpIn_mono (n:=m) (Q:=fun e a' w'=>∃ E1 X1 σ1,E1.w=w'∧Rel (I7 E' (O pre) K) E1 X1 σ1 a'∧TT P l m body nt K (Fs G O QX n nt K (pre ++ [x])) e σ1) key ?_;rintro e a1 W1 ⟨E1,X1,σ1,rfl,g1,g2⟩
  cases e <;> simp only [TT] at g2
  obtain ⟨gnt,genv,gb⟩:=g2;obtain ⟨sl1,o1,n1,nt1,K1⟩:=σ1
  dsimp only at gnt genv
  subst gnt genv;have g0:Rel (I7 E' (O pre) K1) E1 X1 ⟨[],o1,n1,nt1,K1⟩ a1:=⟨fun k v hv=>by simp [Al] at hv,g1.size,g1.defers,g1.objs,g1.apart,g1.stay,g1.fresh,g1.kept,g1.mine,g1.env,g1.envD,g1.base,g1.grow,g1.envk,g1.glob⟩;have hle:=(h1.next (Nat.le_max_left n n1)).leave hs (Nat.le_max_right n n1) g0;have hm1:∀ D,({ target:= .collected D,args:= #[] }:Deferred) ∈ aa.defers→MarkZ C E1 o1 Z D:=fun D hD=>(hm D hD).leave g0;simp only [Exit.then];refine ⟨hle.2,fun A2 hA2 hsz=>?_⟩;have h2:=(hle.1.step (hA2.mono fun b e=>by subst e;exact hl)).mono (Z':=Z) fun b hb=> .inl hb
  have hm2:∀ D,({ target:= .collected D,args:= #[] }:Deferred) ∈ aa.defers→MarkZ C { E1 with w:=A2 } o1 Z D:=fun D hD=>by
   have h3:=(hm1 D hD).step (hA2.mono (own':=Z) fun b e=>by subst e;exact hl);exact ⟨h3.new,h3.fr,h3.ob,h3.at_,fun h=>h3.nz (.inl h)⟩
  have hlb:∀ b,E1.S b→A2.heap[b]?= E1.w.heap[b]?:=fun b hb=>hA2.block b (hle.1.rel.stay b hb).1 fun e=>hle.1.fr b (e ▸ hl) hb;have hlo:∀ r q,Al o1 r=some q→∀ b,blockOf (E1.H r)=some b→A2.heap[b]?= E1.w.heap[b]?:=fun r q h3 b h4=>hA2.block b ((g1.objs r q h3).2.2.1.lt h4) fun e=>hle.1.ob b (e ▸ hl) r q h3 h4;have hel:E1.le { E1 with w:=A2 }:=⟨fun b hb=>⟨hb,hlb b hb⟩,fun r hr=>⟨hr,rfl,rfl⟩⟩
  have h3:Rel (I7 { E1 with w:=A2 } o1 K1) { E1 with w:=A2 } X1 ⟨sl1,o1,n1,nt1,K1⟩ a1 :=
   ⟨fun s v hv=>FV.le _ hel _ (g1.slots s v hv),g1.size,g1.defers,fun r o h=>⟨(g1.objs r o h).1,(g1.objs r o h).2.1,(g1.objs r o h).2.2.1.kept (hlo r o h),FVr.le _ _ (hel.by _) _ (g1.objs r o h).2.2.2⟩,g1.apart,
     fun b hb=>⟨Nat.lt_of_lt_of_le (g1.stay b hb).1 hA2.size,(g1.stay b hb).2⟩,g1.fresh,Keep.refl _ _,fun r o b h1 h2=> .inl ⟨r,o,h1,h2⟩,fun r _=>⟨rfl,rfl⟩,g1.envD,fun b hb=>hb,fun b hb=> .inl hb,rfl,g1.glob.le hel⟩
  refine wpIn_mono (n:=m) (Q:=fun e a' w'=>∃ E3 X3 σ3,E3.w=w'∧Rel (I7 { E1 with w:=A2 } o1 K1) E3 X3 σ3 a'∧Fs G O QX n nt1 K1 (pre ++ [x]) e σ3) (gb _ _ _ _ h3) ?_;rintro e a' w' ⟨E3,X3,σ3,rfl,h5,h6⟩
  have out:∀ n' o',n'≤n→Wk σ3 ⟨[],o',n',nt1,K1⟩→Keep (fun b=>¬ (Z b∨S0 b)) A2 E3.w∧∃ E4 X4,E4.w=E3.w∧RI C s0 o' n nt1 S0 a Z E4 X4∧∀ D,({ target:= .collected D,args:= #[] }:Deferred) ∈ aa.defers→MarkZ C E4 o' Z D:=by
   intro n' o' hn' hwk;obtain ⟨E4,X4,e4,h7⟩:=hwk _ _ _ _ h5;have h8:=h2.leave hs (Nat.le_trans hn' (Nat.le_max_left n n1)) h7;rw [← e4];exact ⟨h8.2,E4,X4,rfl,h8.1.lower fun r hr=>Nat.lt_of_lt_of_le (h7.fresh r hr) hn',fun D hD=>(hm2 D hD).leave h7⟩
  cases e <;> simp only [Fs] at h6
  case normal =>
   obtain ⟨hG1,n',hn',hwk⟩:=h6;obtain ⟨k1,E4,X4,e4,k2,k3⟩:=out n' _ hn' hwk;exact ⟨k1,hG1,E4,X4,e4,k2,k3⟩
  case ret =>
   obtain ⟨n',o',hn',hwk,hqx⟩:=h6;obtain ⟨k1,E4,X4,e4,k2,k3⟩:=out n' o' hn' hwk;exact ⟨k1, .inl rfl,o',E4,X4,e4,k2,k3,hqx⟩
  case exit id =>
   obtain ⟨n',o',hn',hwk,hqx⟩:=h6;obtain ⟨k1,E4,X4,e4,k2,k3⟩:=out n' o' hn' hwk;exact ⟨k1, .inr ⟨id,rfl⟩,o',E4,X4,e4,k2,k3,hqx⟩
 refine TD (gf:=gf) (lb:=ys.toList.toArray) (encs:=encs) hge eg hseq hps (fun c hc=>hri0.lt c hc) (fun c hc=>(hr.stay c (hS0 c hc)).1)
  (fun pre Z W=>G pre∧∃ E' X',E'.w=W∧RI C s0 (O pre) n nt S0 a Z E' X'∧∀ D,({ target:= .collected D,args:= #[] }:Deferred) ∈ aa.defers→MarkZ C E' (O pre) Z D)
  (fun c pre Z W=>(c= .ret∨∃ id,c= .exit id)∧∃ o' E' X',E'.w=W∧RI C s0 o' n nt S0 a Z E' X'∧(∀ D,({ target:= .collected D,args:= #[] }:Deferred) ∈ aa.defers→MarkZ C E' o' Z D)∧QX c pre o') ?_ ?_ ?_ ?_ ⟨hG0,E,X,rfl,hri0,hmz0⟩ ?_ ?_ ?_
 ·rintro pre Z A B ⟨hGp,E',X',rfl,h1,hm⟩ hkp;exact ⟨hGp,_,X',rfl,h1.step hkp,fun D hD=>(hm D hD).step hkp⟩
 ·rintro c pre Z A B ⟨hcc,o',E',X',rfl,h1,hm,h2⟩ hkp;exact ⟨hcc,o',_,X',rfl,h1.step hkp,fun D hD=>(hm D hD).step hkp,h2⟩
 ·rintro pre Z Z' A ⟨hGp,E',X',rfl,h1,hm⟩ hz;exact ⟨hGp,E',X',rfl,h1.mono hz,fun D hD=>⟨(hm D hD).new,(hm D hD).fr,(hm D hD).ob,(hm D hD).at_,fun h=>(hm D hD).nz (hz D h)⟩⟩
 ·rintro c pre Z Z' A ⟨hcc,o',E',X',rfl,h1,hm,h2⟩ hz;exact ⟨hcc,o',E',X',rfl,h1.mono hz,fun D hD=>⟨(hm D hD).new,(hm D hD).fr,(hm D hD).ob,(hm D hD).at_,fun h=>(hm D hD).nz (hz D h)⟩,h2⟩
 ·rintro l m pre x Z Z' T A ⟨hGp,E',X',rfl,h1,hm⟩ hzz hTZ hlen hl;obtain ⟨E0,hw0,hF,hv⟩:=hN _ _ _ _ _ hlen;have hFT:∀ b,E0.S b→(Z b∨T b)∧¬ (Z' b∨T b):=fun b hb=>⟨.inl (hF b hb).1,fun h=>h.elim (hF b hb).2 fun ht=>hTZ b ht (hF b hb).1⟩;have h1:=h1.adopt hw0 (Z':=fun b=>Z' b∨T b) (fun b hb=>hb.imp (hzz b) id) hFT
  have hm:∀ D,({ target:= .collected D,args:= #[] }:Deferred) ∈ aa.defers→MarkZ C { E' with S:=fun b=>E'.S b∨E0.S b } (O pre) (fun b=>Z' b∨T b) D:=fun D hD=>by
   have h2:=hm D hD;exact ⟨h2.new,fun h=>h.elim h2.fr fun h=>h2.nz (hFT D h).1,h2.ob,h2.at_,fun h=>h2.nz (h.imp (hzz D) id)⟩
  have hfv:FVs { E' with S:=fun b=>E'.S b∨E0.S b } (avs x) (encs x).toList :=
   FVs.le (E:=E0.clear) (E':={ E' with S:=fun b=>E'.S b∨E0.S b }) _ ⟨fun b hb=>⟨Or.inr hb,by rw [show E0.clear.w=E'.w from hw0]⟩,fun r (hr:False)=>hr.elim⟩ _ hv
  exact core { E' with S:=fun b=>E'.S b∨E0.S b } X' _ l m pre x hGp h1 hm hfv (.inr hl) ⟨_,_,_,hlen⟩
 ·rintro D xs Z W hD hZD hS ⟨hGp,E',X',rfl,h1,hm⟩ hat2;exact fin .normal _ E' X' D Z h1 hm hZD hat2 hD (hdone xs hS hGp)
 rintro D c pre Z W hD hZD hS ⟨hcc,o',E',X',rfl,h1,hm,h2⟩ hat2
 rcases hcc with rfl | ⟨id,rfl⟩
 ·exact wp_ret (fin .ret _ E' X' D Z h1 hm hZD hat2 hD (hret pre o' hS h2))
 exact wp_exit (fin (.exit id) _ E' X' D Z h1 hm hZD hat2 hD (hexit id pre o' hS h2))
theorem Fun.of_bodyD {P:Program} {f:FuncId} {fn:Func} {c:Code} {args:List AV} {Post:AV→List (Nat × Obj)→Prop} (hf:P.funcs[f]?= some fn) (hb:fn.body=some c) (hnm:(fn.name == "runtime.NumGoroutine")=false)
 (hn:args.length≤fn.ntmps) (h:EvD P c ⟨argSlots 0 args,[],0,fn.ntmps,0⟩ (Fg P fn.results.toList Post)):Fun P f args Post:=by
 refine ⟨⟨fn,hf,by simp [hb],hnm⟩,fun E xs hx hS hG=>?_⟩;refine (callsIn_wide (n:=1)).1 (callsIn_of_wp_marks (F:=Fence.wide) hf hb trivial (wpIn_wide.2 ?_) rfl);have hxl:=hx.length
 let C:Ctx:=⟨E.w,fun _=>False,fun _=>undef,0,E.S,fun _=>0,[]⟩
 have hrel:Rel C E.clear (fun _=>[]) ⟨argSlots 0 args,[],0,fn.ntmps,0⟩ { tmps:=xs.toArray ++ Array.replicate (fn.ntmps - xs.toArray.size) undef,defers:=[] }:=by
  refine ⟨?_,?_,rfl,?_,?_,?_,?_,Keep.refl _ _,?_,?_,?_,fun b hb=>hb,fun b hb=> .inl hb,rfl,hG⟩
  ·intro s v hv;obtain ⟨_,h2⟩:=find_argSlots args 0 s v hv;simp only [Nat.sub_zero] at h2;obtain ⟨y,hy,hfv⟩:=hx.get h2;have hlt:s < xs.length:=(List.getElem?_eq_some_iff.1 hy).1
   have:(xs.toArray ++ Array.replicate (fn.ntmps - xs.toArray.size) undef).getD s undef=y:=by
    have e:(xs.toArray ++ Array.replicate (fn.ntmps - xs.toArray.size) undef)[s]?= some y:=by
     rw [Array.getElem?_append_left (by simpa using hlt)]
     simpa using hy
    rw [Array.getD_eq_getD_getElem?,e];rfl
   rw [this];exact hfv
  ·simp [hxl];omega
  ·intro r o hr;simp [Al] at hr
  ·intro r r' o o' b hr;simp [Al] at hr
  ·intro b hb;exact ⟨hS b hb,fun r o hr=>by simp [Al] at hr⟩
  ·intro r hr;exact hr.elim
  ·intro r o b hr;simp [Al] at hr
  ·intro r hr;exact absurd hr (Nat.not_lt_zero _)
  intro r hr;exact absurd hr (Nat.not_lt_zero _)
 have hend:∀ (E':Env) X' σ' a',Rel C E' X' σ' a'→∀ ks:List Nat,ks.Nodup→Jq P fn.results.toList ks Post σ' →
  ∃ y,(results fn a'.tmps).run P E'.w= .ok y E'.w∧∃ v objs E'' X'',E''.w=E'.w∧Post v objs∧LocalPost E.clear v objs y E'' X'':=by
  intro E' X' σ' a' hr ks hnd hret
  unfold Jq at hret
  split at hret
  ·exact hret.elim
  ·rename_i vs hvs
   split at hret
   ·rename_i v objs hv ho
    obtain ⟨y,hy1,hy2⟩:=hr.run_results hvs;refine ⟨y,hy1,v,objs,?_⟩
    let E'':Env:={ w:=E'.w,H:=fun r'=>match ks[r']? with | some k=>E'.H k | none=>undef,Z:=fun r'=>match ks[r']? with | some k=>E'.Z k | none=>0,D:=fun r'=>r' < ks.length,S:=E'.S }
    have hren:E'.ren (pos ks 0) E'':=by
     refine ⟨fun b hb=>⟨hb,rfl⟩,fun r r' hD hp=>?_⟩;obtain ⟨_,h2⟩:=pos_spec ks 0 r r' hp;simp only [Nat.sub_zero] at h2;exact ⟨(List.getElem?_eq_some_iff.1 h2).1,by simp [E'',h2],by simp [E'',h2]⟩
    refine ⟨E'',fun r'=>match ks[r']? with | some k=>X' k | none=>[],rfl,hret,⟨?_,?_,?_,?_,?_,?_,?_⟩⟩
    ·exact ⟨hr.kept.os,hr.kept.tape,hr.kept.output,hr.kept.size,fun b hb _=>hr.kept.block b hb (fun h=>h)⟩
    ·exact ⟨fun b hb=>⟨hr.base b hb,hr.kept.block b (hS b hb) (fun h=>h)⟩,fun r hD=>hD.elim⟩
    ·intro r hD;exact .inr (Gk ks 0 objs ho r (Nat.zero_le _) (by simpa [E''] using hD))
    ·intro b hb;obtain ⟨h1,h2⟩:=hr.stay b hb
     rcases hr.grow b hb with h | h | h
     ·exact .inl h
     ·refine .inr ⟨h,h1,fun r o hro e=>?_⟩;obtain ⟨k,o1,_,hk,hk2,_⟩:=BB ks 0 objs ho r o hro;simp only [Nat.sub_zero] at hk;simp only [E'',hk] at e;exact h2 k o1 hk2 e
     ·exact h.elim
    ·intro r o hro;obtain ⟨k,o1,_,hk,hk2,hk3⟩:=BB ks 0 objs ho r o hro;simp only [Nat.sub_zero] at hk;obtain ⟨g1,g2,g3,g4⟩:=hr.objs k o1 hk2;have hsp:=CS hk3;refine ⟨(List.getElem?_eq_some_iff.1 hk).1,fun h=>h,by simp [E'',hk,g2,hsp.2.2.1],?_,?_,?_⟩
     ·simp only [E'',hk];exact g3.ren hk3
     ·simp only [hk];exact FVr.renObj hk3 hren g4
     ·intro b hb;simp only [E'',hk] at hb
      rcases hr.mine k o1 b hk2 hb with h | h
      ·exact h.elim
      ·exact h
    ·intro r r' o o' b hro hro' hb hb';obtain ⟨k,o1,_,hk,hk2,hk3⟩:=BB ks 0 objs ho r o hro;obtain ⟨k',o1',_,hk',hk2',hk3'⟩:=BB ks 0 objs ho r' o' hro';simp only [Nat.sub_zero] at hk hk';simp only [E'',hk] at hb;simp only [E'',hk'] at hb';have:=hr.apart k k' o1 o1' b hk2 hk2' hb hb';subst this;obtain ⟨hl,he⟩:=List.getElem?_eq_some_iff.1 hk;obtain ⟨hl',he'⟩:=List.getElem?_eq_some_iff.1 hk';exact (List.getElem_inj hnd).1 (he.trans he'.symm)
    ·exact FV.ren hren hv hy2
   ·exact hret.elim
 refine wp_mono (h C E.clear _ _ ⟨rfl,fun _ h=>h⟩ hrel MarksOK.nil) ?_;rintro e a' w' ⟨E',X',σ',rfl,hr,hdf,hq⟩
 have fin:∀ ks:List Nat,ks.Nodup→Jq P fn.results.toList ks Post σ'→LeavesInM Fence.wide 1 P fn a'.tmps (fun e w'=>∃ y v objs E' X',e= .returned y∧E'.w=w'∧Post v objs∧LocalPost E.clear v objs y E' X') a'.defers .returning E'.w:=by
  intro ks hnd hq
  have key:∀ (ds:List Deferred) (E':Env),Rel C E' X' σ' { a' with defers:=[] }→MarksOK P C E' σ' ds→LeavesInM Fence.wide 1 P fn a'.tmps (fun e w'=>∃ y v objs E' X',e= .returned y∧E'.w=w'∧Post v objs∧LocalPost E.clear v objs y E' X') ds .returning E'.w:=by
   intro ds
   induction ds with
   |nil =>
    intro E' hr _;obtain ⟨y,hy,v,objs,E'',X'',h1,h2,h3⟩:=hend E' X' σ' _ hr ks hnd hq;exact ⟨y,hy,y,v,objs,E'',X'',rfl,h1,h2,h3⟩
   |cons d ds ih =>
    intro E' hr hm;have hm':MarksOK P C E' σ' ds:=⟨fun d' h=>hm.each d' (by simp [h]),(List.pairwise_cons.1 hm.nd).2⟩
    rcases hm.each d (by simp) with ⟨fv,cap,f,args,e1,e2,e3⟩ | ⟨D,rfl,hM⟩
    ·refine ⟨by simp, .inr ⟨fun h=>by simp [Fence.wide] at h,fv,cap,f,args,e1,e2 _,fun _ _=>trivial,(e3 E'.w).mono ?_⟩⟩;rintro e u' w' ⟨⟨v,rfl⟩,rfl,rfl⟩;exact ih E' hr hm'
    have hr':=hr.other (Z:=fun b=>b=D) (Keep.putObj E'.w (.deferred none) rfl) (fun b e=>by subst e;exact ⟨hM.new,hM.fr,hM.ob⟩);refine ⟨by simp, .inl ⟨D,_,rfl,run_takeDeferred hM.at_,ih _ hr' ⟨fun d' h=>?_,hm'.nd⟩⟩⟩
    rcases hm'.each d' h with h1 | ⟨D',rfl,h1⟩
    ·exact .inl h1
    have hne:D'≠D:=fun e=>(List.pairwise_cons.1 hm.nd).1 _ h D rfl (by rw [e]);exact .inr ⟨D',rfl,h1.new,h1.fr,h1.ob,(World.putObj_heap_other (Ne.symm hne.symm)).trans h1.at_⟩
  exact key a'.defers E' hr hdf
 cases e <;> simp only [Fg] at hq
 case normal=>obtain ⟨ks,hnd,hq⟩:=hq;exact fin ks hnd hq
 case ret=>obtain ⟨ks,hnd,hq⟩:=hq;exact fin ks hnd hq
theorem Fun.ofD {P:Program} {f:FuncId} {fn:Func} {c:Code} {args:List AV} {Post:AV→List (Nat × Obj)→Prop} {nt:Nat} {rs:List ResultVar} (hf:P.funcs[f]?= some fn) (hb:fn.body=some c) (ht:fn.ntmps=nt)
 (hr:fn.results.toList=rs) (hnm:(fn.name == "runtime.NumGoroutine")=false) (hn:Nat.ble args.length nt=true) (h:EvD P c ⟨argSlots 0 args,[],0,nt,0⟩ (Fg P rs Post)):Fun P f args Post :=
 Fun.of_bodyD hf hb hnm (by rw [ht];exact CG hn) (by rw [ht,hr];exact h)
section
variable {P:Program} {s:List (Nat × AV)} {b:List (Nat × Obj)} {n t e:Nat} {Q:Exit→St→Prop}
theorem EvD.loopU {c:Code} {ι:Type} (rs:List Nat) (ks:List Nat) {kept:List (Nat × AV)} (U:ι→List (Nat × AV)) (O:ι→List (Nat × Obj)) (μ:ι→Nat) (x0:ι) (hk:Kept (pos rs 0) s ks kept) (hO:BG ⟨s,b,n,t,e⟩ (pos rs 0) 0 rs=some (O x0)) (hU:Cv (pos rs 0) ⟨s,b,n,t,e⟩ (U x0))
 (round:∀ x (R:Exit→St→Prop),(∀ e' σ',FH (fun x=>⟨U x ++ kept,O x,rs.length,t,e⟩) μ x Q e' σ'→R e' σ')→EvD P c ⟨U x ++ kept,O x,rs.length,t,e⟩ R) (hnd:rs.Nodup:=by decide) (hl:∀ i,i < e→rs[i]?= some i:=by decide):EvD P (.loop c) ⟨s,b,n,t,e⟩ Q :=
 EvD.loop (fun x=>⟨U x ++ kept,O x,rs.length,t,e⟩) μ x0 (Wk.ren rs hnd (C3 hU hk.ren) hO rfl rfl rfl hl) fun x=>round x _ fun _ _ h=>h
theorem Pf {α:Type} {G:List α→Prop} {O:List α→List (Nat × Obj)} {QX:Code→List α→List (Nat × Obj)→Prop} {n0:Nat} {xs:List α} (rs:List Nat) (hG:G xs) (hO:Cu ⟨s,b,n,t,e⟩ (pos rs 0) e 0 rs=some (O xs)) (hn:Nat.ble rs.length n0=true) (hnd:rs.Nodup) (hl:F1 e rs):Fs G O QX n0 t e xs .normal ⟨s,b,n,t,e⟩ :=
 ⟨hG,rs.length,CG hn,Wk.renR rs hnd trivial hO rfl rfl rfl hl⟩
theorem UP {α:Type} {G:List α→Prop} {O:List α→List (Nat × Obj)} {QX:Code→List α→List (Nat × Obj)→Prop} {n0:Nat} {xs:List α} {o':List (Nat × Obj)} (rs:List Nat) (hO:Cu ⟨s,b,n,t,e⟩ (pos rs 0) e 0 rs=some o') (hn:Nat.ble rs.length n0=true) (hnd:rs.Nodup) (hl:F1 e rs) (hq:QX .ret xs o'):Fs G O QX n0 t e xs .ret ⟨s,b,n,t,e⟩ :=
 ⟨rs.length,o',CG hn,Wk.renR rs hnd trivial hO rfl rfl rfl hl,hq⟩
theorem UQ {α:Type} {G:List α→Prop} {O:List α→List (Nat × Obj)} {QX:Code→List α→List (Nat × Obj)→Prop} {n0 id:Nat} {xs:List α} {o':List (Nat × Obj)} (rs:List Nat) (hO:Cu ⟨s,b,n,t,e⟩ (pos rs 0) e 0 rs=some o') (hn:Nat.ble rs.length n0=true) (hnd:rs.Nodup) (hl:F1 e rs) (hq:QX (.exit id) xs o'):Fs G O QX n0 t e xs (.exit id) ⟨s,b,n,t,e⟩ :=
 ⟨rs.length,o',CG hn,Wk.renR rs hnd trivial hO rfl rfl rfl hl,hq⟩
end
def Ku (Q:Exit→St→Prop):Exit→St→Prop
 |.goto _,_=>False
 |e,σ=>Q e σ
theorem TJ {P:Program} {σ:St} {Q:Exit→St→Prop} {c:Code} (h:Ev P c σ (Ku Q)):Ev P (.scope c) σ Q:=fun C E X a hr=>by
 refine wp_scope_straight (wp_mono (h C E X a hr) ?_);rintro e a' w' ⟨E',X',σ',rfl,h2,h3⟩
 cases e <;> simp only [Exit.noGoto,Ku] at h3 ⊢
 all_goals exact ⟨E',X',σ',rfl,h2,h3⟩
theorem EvD.scope {P:Program} {σ:St} {Q:Exit→St→Prop} {c:Code} (h:EvD P c σ (Ku Q)):EvD P (.scope c) σ Q:=fun C E X a hC hr hm=>by
 refine wp_scope_straight (wp_mono (h C E X a hC hr hm) ?_);rintro e a' w' ⟨E',X',σ',rfl,h2,h3,h4⟩
 cases e <;> simp only [Exit.noGoto,Ku] at h4 ⊢
 all_goals exact ⟨E',X',σ',rfl,h2,h3,h4⟩
theorem Yg {E:Env} {v:AV} {k y:Value} (h:FV E v y):FVs E [.lit k,v] (#[k,y]:Array Value).toList:=⟨_,_,rfl,by simp [FV],_,_,rfl,h,rfl⟩
theorem Vq {id:Nat} {Q:Exit→St→Prop} {σ:St} (h:Q .normal σ):D2 id Q .normal σ:=h
theorem Yi {id:Nat} {Q:Exit→St→Prop} {σ:St} (h:Q .ret σ):D2 id Q .ret σ:=h
theorem Yh {id:Nat} {Q:Exit→St→Prop} {σ:St} (h:Q .normal σ):D2 id Q (.exit id) σ:=by
 simp only [D2,if_true];exact h
theorem Vr {id id':Nat} {Q:Exit→St→Prop} {σ:St} (h:Q (.exit id') σ) (hne:Nat.beq id' id=false:=by exact rfl):D2 id Q (.exit id') σ:=by
 simp only [D2];rw [if_neg fun e=>by rw [e,Nat.beq_refl] at hne;cases hne];exact h
section rules
variable {P:Program} {s:List (Nat × AV)} {b:List (Nat × Obj)} {n t e:Nat} {ops:Array Oper} {rest:List Oper} {Q:St→Prop} {d ty:Nat} {pos':String} {aft:Array Edge} {g:Option (Nat × Bool)} {x:Operand}
theorem Fw {ι:Type} {Φ:ι→Prop} {vf vf':ι→AV} {as_:Array Operand} {ts:Array TypeId} {f:FuncId} {first caps:List AV} {vs:List AV} (hc:calleeOf (St.ev ⟨s,b,n,t,e⟩ x)=some (f,first,caps):=by exact rfl) (hv:C7 ⟨s,b,n,t,e⟩ (first ++ (as_.toList.map (St.ev ⟨s,b,n,t,e⟩) ++ caps))=some vs:=by exact rfl) (hF:Fun P f vs (fun v l=>∃ i,Φ i∧v=vf i∧l=[]))
 (hm:closedL (first ++ (as_.toList.map (St.ev ⟨s,b,n,t,e⟩) ++ caps))=true:=by exact rfl) (hl:∀ i,Fl n (vf i)=some (vf' i):=by intro _;exact rfl)
 (hg:AL (AU ops) ⟨s,b,n,t,e⟩ g=some true:=by exact rfl) (hd:Nat.blt d t=true:=by exact rfl) (h:∀ i,Φ i→SeqL P ops rest ⟨(d,vf' i) :: s,b,n,t,e⟩ Q) :
 SeqL P ops (⟨some d, .call { callee:= .value x,args:=as_,argTypes:=ts },ty,pos',aft,g⟩ :: rest) ⟨s,b,n,t,e⟩ Q:=by
 refine SeqL.call hg rfl hc hv hF (.inl hm) (fun d' h'=>by cases h';exact Nat.le_of_ble_eq_true hd) ?_;rintro u l ⟨i,hi,rfl,rfl⟩;exact ⟨vf' i,[],n,hl i,rfl,fun r ob h=>by simp [Al] at h,Nat.le_refl _,h i hi⟩
end rules
def scal:Op→Bool
 |.binOp ..=>true
 |.convert ..=>true
 |.call { callee:= .builtin .max,args:=_,argTypes:=_ }=>true
 |.call { callee:= .builtin .min,args:=_,argTypes:=_ }=>true
 |_=>false
theorem PureW.scalar {P:Program} {σ:St} {o:Oper} {z:Value} (h:∀ C E X a,Rel C E X σ a→∃ s:Sem Value,(execOp a.eval o)=(do pure (.value (← s)))∧Br P s=some z):PureW P σ o (.lit z):=fun C E X a hr=>by
 obtain ⟨s,h1,h2⟩:=h C E X a hr;refine ⟨z,by simp [FV],fun w=>?_⟩;rw [h1]
 simp [Jp s h2 w]
theorem Wb {P:Program} {σ:St} {id:Nat} {o:Oper} {v:AV} {new:List (Nat × Obj)} (hk:scal o.op=true) (h:At P σ id o.op=some (v,new)):PureW P σ o v:=by
 generalize hop:o.op=op at h hk
 unfold scal at hk
 split at hk
 ·rename_i bop t x y yt
  simp only [At] at h
  split at h
  ·rename_i a b ha hb
   obtain ⟨z,h1,rfl,rfl⟩:=Cr h;refine PureW.scalar fun C E X act hr=>⟨(do eqGuard bop t x y a b;binOp bop t a b),?_,h1⟩
   unfold execOp
   simp only [hop,Dl hr ha,Dl hr hb]
  cases h
 ·rename_i s d x
  simp only [At] at h;obtain ⟨z,h1,rfl,rfl⟩:=Cr h;simp only [Option.bind_eq_some_iff] at h1;obtain ⟨a,h2,h3⟩:=h1;refine PureW.scalar fun C E X act hr=>⟨convert s d a,?_,h3⟩
  unfold execOp
  simp only [hop,Dl hr h2]
 ·rename_i zs ts
  simp only [At,Bz] at h;obtain ⟨z,h1,rfl,rfl⟩:=Cr h;simp only [Option.bind_eq_some_iff] at h1;obtain ⟨l,h2,h3⟩:=h1;refine PureW.scalar fun C E X a hr=>⟨Builtin.max_ ts 0 l.toArray,?_,h3⟩;have he:=GW hr h2
  have hm:zs.map a.eval=l.toArray:=by rw [← he];apply Array.ext';simp
  unfold execOp
  have hty:∀ ty xs,Builtin.max_ ts ty xs=Builtin.max_ ts 0 xs:=fun _ _=>rfl;simp only [hop,resolve,invoke,builtin,pure_bind,hm,hty o.type]
 ·rename_i zs ts
  simp only [At,Bz] at h;obtain ⟨z,h1,rfl,rfl⟩:=Cr h;simp only [Option.bind_eq_some_iff] at h1;obtain ⟨l,h2,h3⟩:=h1;refine PureW.scalar fun C E X a hr=>⟨Builtin.min_ ts 0 l.toArray,?_,h3⟩;have he:=GW hr h2
  have hm:zs.map a.eval=l.toArray:=by rw [← he];apply Array.ext';simp
  unfold execOp
  have hty:∀ ty xs,Builtin.min_ ts ty xs=Builtin.min_ ts 0 xs:=fun _ _=>rfl;simp only [hop,resolve,invoke,builtin,pure_bind,hm,hty o.type]
 cases hk
section
variable {P:Program} {s:List (Nat × AV)} {b:List (Nat × Obj)} {n t e:Nat}
theorem WD {l:List Oper} {i m d ty:Nat} {L:Array Bool} {Q:St→Prop} {op:Op} {v:AV} {pos:String} {aft:Array Edge} (ho:l[i]?= some ⟨some d,op,ty,pos,aft,none⟩) (hq:At P ⟨s,b,n,t,e⟩ 0 op=some (v,[])) (h:HP P l m (L.setIfInBounds i true) ⟨(d,v) :: s,b,n,t,e⟩ Q)
 (hk:scal op=true:=by exact rfl) (hdn:Nat.blt d t=true:=by exact rfl) (hc:(Region.noSelect ⟨l⟩ && Region.free .any ⟨l⟩ L i && (Region.ready .any ⟨l⟩ L).contains i)=true:=by kernel_rfl) (hd:d≠1000000:=by decide):HP P l (m+1) L ⟨s,b,n,t,e⟩ Q :=
 .take ho rfl (Nat.le_of_ble_eq_true hdn) hd rfl hc rfl (IS (Wb (o:=⟨some d,op,ty,pos,aft,none⟩) hk hq)) h
theorem V5 {l0 n0:Nat} {Q:Exit→St→Prop} {ops:List Oper} {id m:Nat} {L0:Array Bool} {y:Code} (hlen:ops.length=m) (h4:Array.replicate ops.length false=L0) (hm:P.follows .mixedOrders=true)
 (h:∀ Kt:St→Prop,(∀ σ',EvI P l0 n0 y σ' Q→Kt σ')→HP P ops m L0 ⟨s,b,n,t,e⟩ Kt) (hd:ops.all DN=true:=by exact rfl):EvI P l0 n0 (.seq (.region id ⟨ops⟩ true) y) ⟨s,b,n,t,e⟩ Q :=
 Mm (V4 hlen h4 hm (fun Kt hK=>h Kt fun σ' h'=>hK σ' h') hd)
end
section
variable {P:Program} {s:List (Nat × AV)} {b:List (Nat × Obj)} {n t e:Nat}
theorem WB {E:Env} {v:AV} {x:Value} (hp:(∃ r i j,v= .adr r i j)∨(∃ row j,v= .sadr row j)) (h:FV E v x):∃ ad,x= .pointer (some ad):=by
 rcases hp with ⟨r,i,j,rfl⟩ | ⟨row,j,rfl⟩
 ·simp only [FV] at h;obtain ⟨_,a0,_,_,rfl⟩:=h;exact ⟨_,rfl⟩
 simp only [FV] at h;obtain ⟨ad,xs,rfl,_⟩:=h;exact ⟨_,rfl⟩
theorem UG {x:Operand} {v:AV} {d:Option Nat} {ty:Nat} {pos:String} {aft:Array Edge} {g:Option (Nat × Bool)} (hp:(∃ r i j,v= .adr r i j)∨(∃ row j,v= .sadr row j)) (hx:AJ s x=some v):PureW P ⟨s,b,n,t,e⟩ ⟨d, .nilCheck x,ty,pos,aft,g⟩ v:=by
 intro C E X a hr;have hv:=hr.ev x;rw [AB hx] at hv;obtain ⟨ad,he⟩:=WB hp hv;exact ⟨_,hv,fun w=>by rw [VN rfl he,he]⟩
theorem Vf {l:List Oper} {i m d ty:Nat} {L:Array Bool} {Q:St→Prop} {x:Operand} {r ri rj:Nat} {pos:String} {aft:Array Edge} (ho:l[i]?= some ⟨some d, .nilCheck x,ty,pos,aft,none⟩) (hx:AJ s x=some (.adr r ri rj):=by exact rfl) (hdn:Nat.blt d t=true:=by exact rfl) (hc:(Region.noSelect ⟨l⟩ && Region.free .any ⟨l⟩ L i && (Region.ready .any ⟨l⟩ L).contains i)=true:=by kernel_rfl) (hd:d≠1000000:=by decide)
 (h:HP P l m (L.setIfInBounds i true) ⟨(d, .adr r ri rj) :: s,b,n,t,e⟩ Q):HP P l (m+1) L ⟨s,b,n,t,e⟩ Q:= .take ho rfl (Nat.le_of_ble_eq_true hdn) hd rfl hc rfl (IS (UG (.inl ⟨_,_,_,rfl⟩) hx)) h
theorem UH {K V:Type} [DecidableEq K] {kv:K→Value} {vv:V→Value} {dd:TypeDesc} {mt:Nat} {z0:V} {m:List (K × V)} {k:K} {x y:Operand} {d:Option Nat} {ty:Nat} {pos:String} {aft:Array Edge} {g:Option (Nat × Bool)} (h:KL dd kv) (ht:ES P mt=some (dd,some (vv z0))) (hx:AJ s x=some (.shm 3 (m.map (G5 kv vv)))) (hy:AJ s y=some (.lit (kv k))) :
 Lp P ⟨s,b,n,t,e⟩ ⟨d, .lookup mt x y false,ty,pos,aft,g⟩ (.lit (vv ((mget m k).getD z0))):=by
 intro C E X a hr;have hv:=hr.ev x;rw [AB hx] at hv;simp only [FV] at hv;have hke:=hr.ev y;rw [AB hy] at hke;simp only [FV] at hke;obtain ⟨kt,et,z1,ht1,ht2,hz,hzz⟩:=Gm ht
 have hz1:z1=vv z0:=by
  rcases hzz with ⟨h1,_⟩ | ⟨h1,_⟩
  ·simpa using h1.symm
  cases h1
 subst hz1;have hik:=M0 (h.key k);refine ⟨vv ((mget m k).getD z0),by simp [FV],fun w hw=>?_⟩;have hf:=KX (vv:=vv) h k m 0
 rcases hv with ⟨he,hm0⟩ | ⟨bb,es,clk,he,hS,hg,hwf,hrow⟩
 ·have hm1:m=[]:=by simpa using hm0
  subst hm1;have h1:Instr.findNow dd (kv k) [] 0=some none:=rfl
  unfold execOp
  simp [he,hke,Instr.lookup,run_underlying ht1,Go.MapKept.run_checkKey ht2 hik,Go.MapKept.run_findKey ht2 h1,hz,Result.andThen,mget]
 have hg2:w.heap[bb]?= some (.map es clk):=(hw bb hS).trans hg
 rcases GA (by decide) hwf.len hrow hf with ⟨h0,h1,_⟩ | ⟨j,v,vs,en,h0,_,_,h2,h3,h1,_⟩
 ·have hm1:mget m k=none:=by simpa using h0
  rw [hm1]
  unfold execOp
  simp [he,hke,Instr.lookup,run_underlying ht1,Go.MapKept.run_getObj_map hg2,Go.MapKept.run_checkKey ht2 hik,Go.MapKept.run_findKey ht2 h1,hz,Result.andThen]
 cases hmg:mget m k with
 |none=>rw [hmg] at h0;cases h0
 |some u =>
  rw [hmg] at h0;simp only [Option.map_some,Option.some.injEq,Prod.mk.injEq] at h0;obtain ⟨_,h01⟩:=h0;subst h01;have hval:=Lo (z:=some (vv z0)) h3 (u:= .lit (vv u)) rfl;simp only [FV] at hval
  unfold execOp
  simp [he,hke,Instr.lookup,run_underlying ht1,Go.MapKept.run_getObj_map hg2,Go.MapKept.run_checkKey ht2 hik,Go.MapKept.run_findKey ht2 h1,Result.andThen,hval]
theorem WC {K:Type} [DecidableEq K] {kv:K→Value} {dd:TypeDesc} {mt:Nat} {V:Type} {vv:V→Value} {z0:V} {mp:List (K × V)} {k:K} {l:List Oper} {i m d ty:Nat} {L:Array Bool} {Q:St→Prop} {x y:Operand} {pos:String} {aft:Array Edge} (hk:KL dd kv) (ht:ES P mt=some (dd,some (vv z0))) (ho:l[i]?= some ⟨some d, .lookup mt x y false,ty,pos,aft,none⟩) (hx:AJ s x=some (.shm 3 (mp.map (G5 kv vv))):=by exact rfl) (hy:AJ s y=some (.lit (kv k)):=by exact rfl) (hdn:Nat.blt d t=true:=by exact rfl) (hc:(Region.noSelect ⟨l⟩ && Region.free .any ⟨l⟩ L i && (Region.ready .any ⟨l⟩ L).contains i)=true:=by kernel_rfl) (hd:d≠1000000:=by decide)
 (h:HP P l m (L.setIfInBounds i true) ⟨(d, .lit (vv ((mget mp k).getD z0))) :: s,b,n,t,e⟩ Q):HP P l (m+1) L ⟨s,b,n,t,e⟩ Q:= .take ho rfl (Nat.le_of_ble_eq_true hdn) hd rfl hc rfl (UH hk ht hx hy) h
theorem V9 {l:List Oper} {t i j k q m:Nat} {hb:St→Prop} {L:Array Bool} {σ:St} {Q:St→Prop} {o o' o'' o3:Oper} (h0:hb σ) (ho:l[i]?= some o) (ho':l[j]?= some o') (ho'':l[k]?= some o'') (ho3:l[q]?= some o3) (h:SeqL P ⟨l⟩ [o] σ fun σ'=>HT P l t hb m (L.setIfInBounds i true) σ' Q) (h':SeqL P ⟨l⟩ [o'] σ fun σ'=>HT P l t hb m (L.setIfInBounds j true) σ' Q) (h'':SeqL P ⟨l⟩ [o''] σ fun σ'=>HT P l t hb m (L.setIfInBounds k true) σ' Q) (h3:SeqL P ⟨l⟩ [o3] σ fun σ'=>HT P l t hb m (L.setIfInBounds q true) σ' Q)
 (hr:Region.ready .any ⟨l⟩ L=[i,j,k,q]:=by kernel_rfl) (hd:o.dst≠some t:=by decide) (hd':o'.dst≠some t:=by decide) (hd'':o''.dst≠some t:=by decide) (hd3:o3.dst≠some t:=by decide):HT P l t hb (m+1) L σ Q :=
 ⟨h0, .inl ⟨by rw [hr];simp,fun z hz=>by
   rw [hr] at hz;simp only [List.mem_cons,List.not_mem_nil,or_false] at hz
   rcases hz with rfl | rfl | rfl | rfl
   ·exact ⟨o,ho,hd,h⟩
   ·exact ⟨o',ho',hd',h'⟩
   ·exact ⟨o'',ho'',hd'',h''⟩
   ·exact ⟨o3,ho3,hd3,h3⟩⟩⟩
theorem V2 {Q:Exit→St→Prop} {l:List Oper} {id m nr:Nat} {L0:Array Bool} {kept:List (Nat × AV)} (ks:List Nat) (U:List (Nat × AV)) (O:List (Nat × Obj)) (hk:Kept (pos [] 0) s ks kept) (hlen:l.length=m) (h4:Array.replicate l.length false=L0) (hm:P.follows .mixedOrders=true)
 (h:∀ Kt:St→Prop,(∀ σ',Wk σ' ⟨U ++ kept,O,nr,t,e⟩→Kt σ')→HP P l m L0 ⟨s,b,n,t,e⟩ Kt) (hy:Q .normal ⟨U ++ kept,O,nr,t,e⟩):Ev P (.region id ⟨l⟩ true) ⟨s,b,n,t,e⟩ Q:=by
 have h1:=Ll (id:=id) (Q:=fun x σ'=>x=Exit.normal∧Wk σ' ⟨U ++ kept,O,nr,t,e⟩) hlen h4 hm fun Kt hK=>h Kt fun σ' hw=>hK σ' ⟨rfl,hw⟩;intro C E X a hr;refine wp_mono (h1 C E X a hr) fun x a' w' hq=>?_;obtain ⟨E',X',σ',hE,hrel,rfl,hw⟩:=hq;obtain ⟨E2,X2,h2,h3⟩:=hw C E' X' a' hrel;exact ⟨E2,X2,_,h2.trans hE,h3,hy⟩
theorem Wk.frzC {T:Type} {f:T→List AV} (l:List T) (q j:Nat) (b':List (Nat × Obj)) {slc:Bool} {r el c m ty sz:Nat} {cs cs':List AV} (hq:Al b q=some ⟨false,ty,sz,[cs],false⟩:=by exact rfl) (hj:cs[j]?= some (.als r 0 m):=by exact rfl) (ho:Al b r=some ⟨slc,el,c,l.map f,true⟩:=by exact rfl) (hm:l.length=m:=by first | exact rfl | simp) (hk:Nat.ble e r=true:=by exact rfl) (hqr:q≠r:=by decide) (hset:cs.set j (.sh c (l.map f))=cs':=by exact rfl) (hb:Ct (Ct b r) q=b':=by exact rfl) :
 Wk ⟨s,b,n,t,e⟩ ⟨s,(q,⟨false,ty,sz,[cs'],closedL cs'⟩) :: b',n,t,e⟩:=by
 subst hset hb hm;intro C E X a hr;obtain ⟨g1,g2,g3,g4⟩:=hr.objs r _ ho
 let E':Env:={ E with S:=fun b=>E.S b∨blockOf (E.H r)=some b }
 have hle':E.le E':=⟨fun b hb=>⟨.inl hb,rfl⟩,fun r hD=>⟨hD,rfl,rfl⟩⟩
 have hd:∀ r' o',Al (Ct (Ct b r) q) r'=some o'→Al b r'=some o'∧r'≠r∧r'≠q:=by
  intro r' o' hf;rw [Cj] at hf
  split at hf
  ·cases hf
  rename_i e2
  rw [Cj] at hf
  split at hf
  ·cases hf
  rename_i e1;exact ⟨hf,fun e'=>e1 e'.symm,fun e'=>e2 e'.symm⟩
 have hd2:∀ r' o',Al ((q,(⟨false,ty,sz,[cs.set j (.sh c (l.map f))],closedL (cs.set j (.sh c (l.map f)))⟩:Obj)) :: Ct (Ct b r) q) r'=some o'→∃ o2,Al b r'=some o2∧r'≠r:=by
  intro r' o' hf;rw [A8] at hf
  split at hf
  ·rename_i e1;subst e1;exact ⟨_,hq,hqr⟩
  exact ⟨_,(hd r' o' hf).1,(hd r' o' hf).2.1⟩
 refine ⟨E',X,rfl,⟨fun s' v hv=>FV.le _ hle' _ (hr.slots s' v hv),hr.size,hr.defers,?_,?_,?_,hr.fresh,hr.kept,?_,?_,hr.envD,?_,?_,hr.envk,hr.glob.le hle'⟩⟩
 ·intro r' o' hf;rw [A8] at hf
  split at hf
  ·rename_i e1
   subst e1;simp only [Option.some.injEq] at hf;subst hf;obtain ⟨k1,k2,k3,k4⟩:=hr.objs q _ hq
   have hc:FVr E' sz [cs.set j (.sh c (l.map f))] (X q):=by
    have k5:FVr E sz [cs] (X q):=k4;simp only [FVr] at k5 ⊢;obtain ⟨ys,zs,e1,e0,e2,e3⟩:=k5;refine ⟨ys,zs,e1,by rw [List.length_set];exact e0,FVc.setCell (FVc.le _ hle' _ e2) hj fun y hy=>?_,e3⟩;simp only [FV] at hy;obtain ⟨_,A0,n0,c0,A,c1,hH,hxe,hnc,hz,hA⟩:=hy;have g4':FVr E.clear c (l.map f) (X r):=g4;simp only [FV];refine ⟨A,c1,X r,by rw [List.length_map];exact hxe,by rw [List.length_map];exact hnc,FVr.le _ _ hle'.clear _ g4',fun hne=>?_⟩
    have hpos:0 < l.length:=by
     rcases Nat.eq_zero_or_pos l.length with h0 | h0
     ·rw [List.eq_nil_of_length_eq_zero h0] at hne;simp at hne
     exact h0
    obtain ⟨a0,rfl,hsp,rfl⟩:=hA hpos;obtain ⟨_,hh⟩:=g3.holds (a0:=a0) (by show baseOf (E'.H r)=_;rw [hH];rfl);refine ⟨_,rfl,Dp _ hsp _,?_,?_⟩
    ·rw [Dm];exact .inr (by show blockOf (E'.H r)=_;rw [hH];rfl)
    rw [Nat.zero_mul,Addr.add_zero'];exact hh
   refine ⟨k1,k2,by unfold ObjOK at k3 ⊢;exact k3,?_⟩
   cases hcl:closedL (cs.set j (.sh c (l.map f))) with
   |false=>exact hc
   |true=>exact FVr.closed (by simp [closedR,hcl]) hc
  obtain ⟨hf,hne⟩:=hd r' o' hf;obtain ⟨k1,k2,k3,k4⟩:=hr.objs r' o' hf;exact ⟨k1,k2,k3,FVr.le _ _ (hle'.by _) _ k4⟩
 ·intro r1 r2 o1 o2 b h1 h2 hb1 hb2;obtain ⟨p1,q1,_⟩:=hd2 r1 o1 h1;obtain ⟨p2,q2,_⟩:=hd2 r2 o2 h2;exact hr.apart r1 r2 p1 p2 b q1 q2 hb1 hb2
 ·rintro b1 (hb | hb)
  ·exact ⟨(hr.stay b1 hb).1,fun r' o' hf=>by
    obtain ⟨p1,q1,_⟩:=hd2 r' o' hf
    exact (hr.stay b1 hb).2 r' p1 q1⟩
  refine ⟨g3.lt hb,fun r' o' hf hbk=>?_⟩;obtain ⟨p1,q1,hne⟩:=hd2 r' o' hf;exact hne (hr.apart r' r p1 _ b1 q1 ho hbk hb)
 ·intro r' o' b1 hf hbk;obtain ⟨p1,q1,_⟩:=hd2 r' o' hf;exact hr.mine r' p1 b1 q1 hbk
 ·exact hr.env
 ·intro b1 hb;exact .inl (hr.base b1 hb)
 rintro b1 (hb | hb)
 ·exact hr.grow b1 hb
 rcases hr.mine r _ b1 ho hb with h | h
 ·exact .inr (.inr h)
 exact .inr (.inl h)
end
def St.wr (σ:St) (dv:List (Nat × AV)) (r:Nat) (o:Obj):St:={ σ with slots:=dv ++ σ.slots,objs:=(r,o) :: σ.objs }
def St.less (σ:St) (r:Nat):St:={ σ with objs:=Ct σ.objs r }
theorem La {dv A B:List (Nat × AV)} (h:∀ s v,Al A s=some v→Al B s=some v):∀ s v,Al (dv ++ A) s=some v→Al (dv ++ B) s=some v:=by
 intro s v hv;rw [AZ] at hv ⊢
 cases hf:Al dv s with
 |some u=>rw [hf] at hv;exact hv
 |none =>
  rw [hf] at hv;exact h s v (by simpa using hv)
theorem KZ {T:Type}:∀ {l:List (Nat × T)} {k:Nat} {o:T},Al l k=some o→∃ p ∈ l,p.1=k
 |[],k,o,h=>by simp [Al] at h
 |p :: l,k,o,h=>by
  rw [A8] at h
  split at h
  ·exact ⟨p,by simp,by assumption⟩
  ·obtain ⟨q,hq,e⟩:=KZ h;exact ⟨q,by simp [hq],e⟩
theorem Mx {l:List (Nat × AV)} {s:Nat} (ds:List Nat) (h:Al l s=none):Al (I9 ds l) s=none:=by
 rw [Fi,h]
 split <;> rfl
section late
variable {P:Program} {l:List Oper} {T:List (List Bool)} {K:Nat}
theorem Sl {σ:St} {nx:Nat} {R:List Res} {Q:Exit→Act→World→Prop} {C:Ctx} {r0:Nat} {o0:Obj} {dv:List (Nat × AV)} (hc:JE l T (K+1)=true) (hKl:K < l.length) (hRl:R.length=K) (hnd:(R.map (·.dst)).Nodup)
 (hR:∀ i,i < K→Lq P l σ (R.map (·.dst)) nx K T R i) (hσ:∀ k o,Al σ.objs k=some o→k < σ.next)
 (hF:∀ i,i < K→DO T K i=false→∀ o q,l[i]?= some o→R[i]?= some q→o.dst=some q.dst→q.new=[]∧((AL (AU ⟨l⟩) ((C5 σ (R.map (·.dst)) nx ((T[i]?).getD []) R).less r0) o.guard=some true∧Local P ((C5 σ (R.map (·.dst)) nx ((T[i]?).getD []) R).less r0) o q.v [])∨(AL (AU ⟨l⟩) ((C5 σ (R.map (·.dst)) nx ((T[i]?).getD []) R).less r0) o.guard=some false∧q.v= .lit undef)))
 (hdv:∀ p ∈ dv,Al σ.slots p.1=none∧∀ q ∈ R,q.dst≠p.1)
 (hfin:∀ E X a,Rel C E X ((C5 σ (R.map (·.dst)) nx (List.replicate K true) R).wr dv r0 o0) a→F7 P ⟨l⟩ Q (l.drop (K+1)) a E.w) :
 ∀ (fuel:Nat) (listed:Array Bool) (E:Env) (X:Nat→List Value) (a:Act),listed.size=l.length→(List.range l.length).countP (fun j=> !listed.getD j true)=fuel→Shut l listed→(∀ i,K+1≤i→listed.getD i false=false)→listed.getD K false=true →
  Rel C E X ((C5 σ (R.map (·.dst)) nx (B4 K listed) R).wr dv r0 o0) a→wpAny P .any ⟨l⟩ Q fuel listed a E.w:=by
 have hid:∀ (m:Nat) (q:Res),R[m]?= some q→∀ k o,Al q.new k=some o→σ.next+4 * (0+m)≤k∧k < σ.next+4 * (0+m)+4:=by
  intro m q hq k o hf
  have hm:m < K:=by rw [← hRl];exact (List.getElem?_eq_some_iff.1 hq).1
  have ho:l[m]?= some l[m]:=List.getElem?_eq_getElem (by omega);have:=(hR m hm _ q ho hq).2.2.1 k o hf;omega
 intro fuel
 induction fuel with
 |zero =>
  intro listed E X a hsz hcnt hs hge hlK hr
  have hall:∀ j,j < l.length→listed.getD j true=true:=by
   intro j hj;have:=List.countP_eq_zero.1 hcnt j (by simpa using hj)
   simpa using this
  have hKn:K+1=l.length:=by
   rcases Nat.lt_or_ge (K+1) l.length with h | h
   ·have h1:=hall (K+1) h;rw [Dq (by omega),hge (K+1) (Nat.le_refl _)] at h1
    cases h1
   omega
  refine HC hc 0 (K+1) listed a E.w (by omega) (Nat.le_refl _) hsz hs (fun j hj=>?_) (hfin E X a ?_)
  ·rw [← Dq (by omega),hall j hj]
   simp;omega
  have hb:=Gb (nx:=nx) (bs:=B4 K listed) (bs':=List.replicate K true) hnd hid hσ (fun j hj=>Co.2 (by
   obtain ⟨hlt,_⟩:=List.getElem?_eq_some_iff.1 hj
   simp at hlt
   exact ⟨hlt,by rw [← Dq (by omega)];exact hall j (by omega)⟩))
  refine hr.sub (La hb.1) (fun k o hk=>?_) (Nat.le_refl _) rfl rfl;simp only [St.wr,A8] at hk ⊢
  split at hk
  ·rename_i e;rw [if_pos e];exact hk
  rename_i e;rw [if_neg e];exact hb.2 k o hk
 |succ fuel ih =>
  intro listed E X a hsz hcnt hs hge hlK hr
  by_cases hallK:∀ j,j < K→listed.getD j false=true
  ·have hb:=Gb (nx:=nx) (bs:=B4 K listed) (bs':=List.replicate K true) hnd hid hσ (fun j hj=>Co.2 (by
    obtain ⟨hlt,_⟩:=List.getElem?_eq_some_iff.1 hj
    simp at hlt
    exact ⟨hlt,hallK j hlt⟩))
   have hr':=hr.sub (σ':=St.wr (C5 σ (R.map (fun r:Res=>r.dst)) nx (List.replicate K true) R) dv r0 o0) (La hb.1) (fun k o hk=>by
    simp only [St.wr,A8] at hk ⊢
    split at hk
    ·rename_i e;rw [if_pos e];exact hk
    rename_i e;rw [if_neg e];exact hb.2 k o hk) (Nat.le_refl _) rfl rfl
   have hd:∀ j,j < l.length→listed.getD j false=decide (j < K+1):=by
    intro j hj
    by_cases h:j < K
    ·simp [hallK j h,show j < K+1 by omega]
    by_cases h2:j=K
    ·subst h2;simp [hlK]
    simp [hge j (by omega),show ¬ j < K+1 by omega]
   have hcnt2:=Ot hsz (show K+1≤l.length by omega) hd;exact HC hc (fuel+1) (K+1) listed a E.w (by omega) (Nat.le_refl _) hsz hs hd (hfin E X a hr')
  obtain ⟨j0,hj0⟩:=Classical.not_forall.1 hallK;obtain ⟨hj1,hj2⟩:=Classical.not_imp.1 hj0
  have hj2:listed.getD j0 false=false:=by simpa using hj2
  refine ⟨fun hnil=>?_,fun i hi=>?_⟩
  ·obtain ⟨j,_,hj⟩:=Gs hc hsz (show j0 < l.length by omega) hj2;rw [hnil] at hj
   cases hj
  obtain ⟨o,ho,h1,hp⟩:=Fm.1 hi;have hlt:=(List.getElem?_eq_some_iff.1 ho).1
  have hiK:i < K:=by
   rcases Nat.lt_or_ge i K with h | h
   ·exact h
   exfalso
   by_cases e:i=K
   ·subst e;rw [Dq (by omega),hlK] at h1
    cases h1
   have hb:=((DB hc ho).2.2 j0 (by omega)).2 (by omega);have:=Dr hc hs i o ho hp j0 (by omega) hb;rw [hj2] at this
   cases this
  have hfree:DO T K i=false:=by
   cases hb:DO T K i with
   |false=>rfl
   |true =>
    exfalso
    have hoK:l[K]?= some l[K]:=List.getElem?_eq_getElem hKl;have:=Dr hc hs K _ hoK (fun e he=>hs K _ hoK hlK e he) i hiK hb;rw [Dq (by omega),this] at h1
    cases h1
  have hRi:R[i]?= some (R[i]'(by omega)):=List.getElem?_eq_getElem (by omega)
  generalize hri:(R[i]'(by omega))=ri at hRi
  obtain ⟨hdst,hdn,hids,hor⟩:=hR i hiK o ri ho hRi;obtain ⟨hnew0,hgl⟩:=hF i hiK hfree o ri ho hRi hdst;have hsh:=hs.set hc hsz hi;have hlen:=(DB hc ho).1
  have hbits:∀ j:Nat,((T[i]?).getD [])[j]?= some true→(B4 K listed)[j]?= some true:=by
   intro j hj;have hji:j < i:=Nat.lt_of_lt_of_le (List.getElem?_eq_some_iff.1 hj).1 hlen;refine Co.2 ⟨by omega,Dr hc hs i o ho hp j hji ?_⟩
   unfold DO
   rw [List.getD_eq_getElem?_getD,hj];rfl
  have hb:=Gb (nx:=nx) (bs:=B4 K listed) (bs':=(T[i]?).getD []) hnd hid hσ hbits
  have hdn0:∀ s v,Al (C5 σ (R.map (·.dst)) nx (B4 K listed) R).slots s=some v→Al dv s=none:=by
   intro s v hv
   cases hf:Al dv s with
   |none=>rfl
   |some u =>
    exfalso
    obtain ⟨p,hp,rfl⟩:=KZ hf;obtain ⟨g1,g2⟩:=hdv p hp;simp only [C5] at hv;rw [AZ] at hv
    cases hf2:Al (slotsM (B4 K listed) R) p.1 with
    |some w =>
     obtain ⟨j,q,_,k2,k3,_⟩:=find_slotsM _ R p.1 w hf2;exact g2 q (List.mem_of_getElem? k2) k3
    |none =>
     rw [hf2,Mx _ g1] at hv
     cases hv
  have hrr:=hr.sub (σ':=(C5 σ (R.map (·.dst)) nx ((T[i]?).getD []) R).less r0) (fun s v hv=>by
   have h2:=hb.1 s v hv;simp only [St.wr];rw [AZ,hdn0 s v h2]
   exact h2) (fun k o hk=>by
   simp only [St.less,Cj] at hk;simp only [St.wr,A8]
   split at hk
   ·cases hk
   rename_i e
   rw [if_neg (fun h=>e (by exact h))]
   exact hb.2 k o hk) (Nat.le_refl _) rfl rfl
  have ho':(⟨l⟩:Array Oper)[i]?= some o:=by simpa using ho
  have hstep:∀ (E':Env) X' a',Rel C E' X' (((C5 σ (R.map (·.dst)) nx (B4 K listed) R).wr dv r0 o0).ext o.dst ri.v ri.new nx) a'→wpAny P .any ⟨l⟩ Q fuel (listed.setIfInBounds i true) a' E'.w:=by
   intro E' X' a' hr';refine ih _ E' X' a' (by simpa using hsz) ?_ hsh ?_ ?_ ?_
   ·have:=Hr hsz hlt h1;omega
   ·intro k hk;rw [CI (by omega),if_neg (by omega)];exact hge k hk
   ·rw [CI (by omega),if_neg (by omega)];exact hlK
   refine hr'.sub ?_ ?_ (Nat.le_refl _) rfl rfl
   ·intro s v hv;simp only [St.ext,hdst,St.wr] at hv ⊢;rw [AZ] at hv
    cases hf:Al dv s with
    |some u =>
     rw [hf] at hv;obtain ⟨p,hp,e⟩:=KZ hf
     have hne:ri.dst≠s:=by rw [← e];exact (hdv p hp).2 ri (List.mem_of_getElem? hRi)
     show Al ((ri.dst,ri.v) :: (dv ++ _)) s=some v
     rw [A8,if_neg hne,AZ,hf];exact hv
    |none =>
     rw [hf] at hv;have h2:=Mf (nx:=nx) hnd hRi (show i < listed.size by omega) s v (by simpa using hv)
     show Al ((ri.dst,ri.v) :: (dv ++ _)) s=some v
     rw [A8] at h2 ⊢
     split
     ·rename_i e;rw [if_pos e] at h2;exact h2
     rename_i e
     rw [if_neg e] at h2;rw [AZ,hf];exact h2
   intro k ob hv;simp only [St.ext,St.wr,hnew0,List.nil_append,A8] at hv ⊢
   split at hv
   ·rename_i e;rw [if_pos e];exact hv
   rename_i e
   rw [if_neg e];have:=Ni (nx:=nx) (K:=K) hid hσ hRi (show i < listed.size by omega) k ob hv;rw [hnew0] at this;exact this
  have hst:∀ d,o.dst=some d→d < ((C5 σ (R.map (·.dst)) nx (B4 K listed) R).wr dv r0 o0).nt:=by
   intro d hd;rw [hdst] at hd;simp only [Option.some.injEq] at hd;subst hd;exact hdn
  unfold wpOp
  simp only [ho']
  rcases hgl with ⟨hgd,hloc⟩ | ⟨hgd,hvu⟩
  ·rw [hrr.guard hgd,if_pos rfl];refine .inl (hloc C E X a hrr (fun r ob hf hDr=>by simp [Al] at hf) _ _ (fun y E' X' hLP=>?_));obtain ⟨X'',hr'⟩:=hr.ext hLP o.dst nx hst (fun r ob hf=>by simp [Al] at hf) (Nat.le_refl _);rw [hnew0] at hstep;exact hstep E' X'' _ hr'
  rw [hrr.guard hgd,if_neg (by simp)];have hput:=hr.put o.dst hst (v:=(.lit undef)) (y:=undef) (by simp [FV]);refine hstep E X _ ?_;rw [hvu,hnew0];exact hput.sub (fun s v h=>h) (fun r ob h=>h) (Nat.le_refl _) rfl rfl
theorem Oi {σ:St} {nx:Nat} {R:List Res} {Q:Exit→Act→World→Prop} {C:Ctx} {oK:Oper} {r0:Nat} {o0:Obj} {dv:List (Nat × AV)} (hc:JE l T (K+1)=true) (hoK:l[K]?= some oK) (hgK:oK.guard=none) (hRl:R.length=K) (hnd:(R.map (·.dst)).Nodup)
 (hR:∀ i,i < K→Lq P l σ (R.map (·.dst)) nx K T R i) (hnx:σ.next+4 * K≤nx) (hσ:∀ k o,Al σ.objs k=some o→k < σ.next)
 (hF:∀ i,i < K→DO T K i=false→∀ o q,l[i]?= some o→R[i]?= some q→o.dst=some q.dst→q.new=[]∧((AL (AU ⟨l⟩) ((C5 σ (R.map (·.dst)) nx ((T[i]?).getD []) R).less r0) o.guard=some true∧Local P ((C5 σ (R.map (·.dst)) nx ((T[i]?).getD []) R).less r0) o q.v [])∨(AL (AU ⟨l⟩) ((C5 σ (R.map (·.dst)) nx ((T[i]?).getD []) R).less r0) o.guard=some false∧q.v= .lit undef)))
 (hdv:∀ p ∈ dv,Al σ.slots p.1=none∧∀ q ∈ R,q.dst≠p.1)
 (hW:∀ bs:List Bool,(∀ j,DO T K j=true→bs[j]?= some true)→Writer P (C5 σ (R.map (·.dst)) nx bs R) oK ((C5 σ (R.map (·.dst)) nx bs R).wr dv r0 o0))
 (hfin:∀ E X a,Rel C E X ((C5 σ (R.map (·.dst)) nx (List.replicate K true) R).wr dv r0 o0) a→F7 P ⟨l⟩ Q (l.drop (K+1)) a E.w) :
 ∀ (fuel:Nat) (listed:Array Bool) (E:Env) (X:Nat→List Value) (a:Act),listed.size=l.length→(List.range l.length).countP (fun j=> !listed.getD j true)=fuel→Shut l listed→(∀ i,K≤i→listed.getD i false=false) →
  Rel C E X (C5 σ (R.map (·.dst)) nx (B4 K listed) R) a→(∀ r,E.D r→r < σ.next∨∃ j q ob,listed.getD j false=true∧R[j]?= some q∧Al q.new r=some ob) →
  wpAny P .any ⟨l⟩ Q fuel listed a E.w:=by
 have hKl:K < l.length:=(List.getElem?_eq_some_iff.1 hoK).1
 have hid:∀ (m:Nat) (q:Res),R[m]?= some q→∀ k o,Al q.new k=some o→σ.next+4 * (0+m)≤k∧k < σ.next+4 * (0+m)+4:=by
  intro m q hq k o hf
  have hm:m < K:=by rw [← hRl];exact (List.getElem?_eq_some_iff.1 hq).1
  have ho:l[m]?= some l[m]:=List.getElem?_eq_getElem (by omega);have:=(hR m hm _ q ho hq).2.2.1 k o hf;omega
 intro fuel
 induction fuel with
 |zero =>
  intro listed E X a hsz hcnt hs hge hr hD;have:=List.countP_eq_zero.1 hcnt K (by simpa using hKl);rw [Dq (by omega),hge K (Nat.le_refl _)] at this
  simp at this
 |succ fuel ih =>
  intro listed E X a hsz hcnt hs hge hr hD;have hKn:listed.getD K false=false:=hge K (Nat.le_refl _);refine ⟨fun hnil=>?_,fun i hi=>?_⟩
  ·obtain ⟨j,_,hj⟩:=Gs hc hsz hKl hKn;rw [hnil] at hj
   cases hj
  obtain ⟨o,ho,h1,hp⟩:=Fm.1 hi;have hlt:=(List.getElem?_eq_some_iff.1 ho).1
  have hiK:i≤K:=by
   rcases Nat.lt_or_ge K i with h | h
   ·exfalso
    have hb:=((DB hc ho).2.2 K (by omega)).2 (by omega);have:=Dr hc hs i o ho hp K (by omega) hb;rw [hKn] at this
    cases this
   exact h
  have hsh:=hs.set hc hsz hi;have hlen:=(DB hc ho).1
  have ho':(⟨l⟩:Array Oper)[i]?= some o:=by simpa using ho
  by_cases hiK2:i=K
  ·
   subst hiK2;rw [hoK] at ho;simp only [Option.some.injEq] at ho;subst ho
   have hbits:∀ j,DO T i j=true→(B4 i listed)[j]?= some true:=by
    intro j hj
    have hji:j < i:=by
     unfold DO at hj
     rw [List.getD_eq_getElem?_getD] at hj
     rcases Nat.lt_or_ge j ((T[i]?).getD []).length with h | h
     ·omega
     rw [List.getElem?_eq_none h] at hj
     cases hj
    exact Co.2 ⟨hji,Dr hc hs i _ hoK hp j hji hj⟩
   unfold wpOp
   simp only [ho'];rw [hr.guard (by rw [hgK];rfl:AL (AU ⟨l⟩) _ oK.guard=some true),if_pos rfl];refine .inl (hW _ hbits C E X a hr _ _ (fun E' X' a' hr'=>?_));refine Sl (K:=i) hc hKl hRl hnd hR hσ hF hdv hfin fuel _ E' X' a' (by simpa using hsz) ?_ hsh ?_ ?_ ?_
   ·have:=Hr hsz hlt h1;omega
   ·intro k hk;rw [CI (by omega),if_neg (by omega)];exact hge k (by omega)
   ·rw [CI (by omega),if_pos rfl]
   have hb:=Gb (nx:=nx) (bs:=B4 i listed) (bs':=B4 i (listed.setIfInBounds i true)) hnd hid hσ (fun j hj=>by
    obtain ⟨g1,g2⟩:=Co.1 hj;rw [CI (by omega),if_neg (by omega)] at g2
    exact Co.2 ⟨g1,g2⟩)
   refine hr'.sub (La hb.1) (fun k ob hk=>?_) (Nat.le_refl _) rfl rfl;simp only [St.wr,A8] at hk ⊢
   split at hk
   ·rename_i e;rw [if_pos e];exact hk
   rename_i e;rw [if_neg e];exact hb.2 k ob hk
  have hiK:i < K:=by omega
  have hRi:R[i]?= some (R[i]'(by omega)):=List.getElem?_eq_getElem (by omega)
  generalize hri:(R[i]'(by omega))=ri at hRi
  obtain ⟨hdst,hdn,hids,hor⟩:=hR i hiK o ri ho hRi
  have hbits:∀ j:Nat,((T[i]?).getD [])[j]?= some true→(B4 K listed)[j]?= some true:=by
   intro j hj;have hji:j < i:=Nat.lt_of_lt_of_le (List.getElem?_eq_some_iff.1 hj).1 hlen;refine Co.2 ⟨by omega,Dr hc hs i o ho hp j hji ?_⟩
   unfold DO
   rw [List.getD_eq_getElem?_getD,hj];rfl
  have hb:=Gb (nx:=nx) (bs:=B4 K listed) (bs':=(T[i]?).getD []) hnd hid hσ hbits;have hrr:=hr.sub (σ':=C5 σ (R.map (fun r:Res=>r.dst)) nx ((T[i]?).getD []) R) hb.1 hb.2 (Nat.le_refl _) rfl rfl
  have hstep:∀ (E':Env) X' a',Rel C E' X' ((C5 σ (R.map (fun r:Res=>r.dst)) nx (B4 K listed) R).ext o.dst ri.v ri.new nx) a'→(∀ r,E'.D r→E.D r∨∃ ob,Al ri.new r=some ob) →
   wpAny P .any ⟨l⟩ Q fuel (listed.setIfInBounds i true) a' E'.w:=by
   intro E' X' a' hr' hD';refine ih _ E' X' a' (by simpa using hsz) ?_ hsh ?_ ?_ ?_
   ·have:=Hr hsz hlt h1;omega
   ·intro k hk;rw [CI (by omega),if_neg (by omega)];exact hge k hk
   ·refine hr'.sub ?_ ?_ (Nat.le_refl _) rfl rfl
    ·intro s v hv;simp only [St.ext,hdst] at hv ⊢;exact Mf hnd hRi (by omega) s v hv
    ·intro k ob hv;simp only [St.ext] at hv ⊢;exact Ni (nx:=nx) (K:=K) hid hσ hRi (show i < listed.size by omega) k ob hv
   ·intro r hr2
    rcases hD' r hr2 with h | ⟨ob,h⟩
    ·rcases hD r h with h | ⟨j,q,ob,k1,k2,k3⟩
     ·exact .inl h
     ·refine .inr ⟨j,q,ob,?_,k2,k3⟩;rw [CI (by omega)]
      split
      ·rfl
      ·exact k1
    ·exact .inr ⟨i,ri,ob,by rw [CI (by omega),if_pos rfl],hRi,h⟩
  have hst:∀ d,o.dst=some d→d < (C5 σ (R.map (fun r:Res=>r.dst)) nx (B4 K listed) R).nt:=by
   intro d hd;rw [hdst] at hd;simp only [Option.some.injEq] at hd;subst hd;exact hdn
  unfold wpOp
  simp only [ho']
  rcases hor with ⟨hg,hloc⟩ | ⟨hg,hv,hnew⟩
  ·rw [hrr.guard hg,if_pos rfl];refine .inl (hloc C E X a hrr (fun r ob hf hDr=>?_) _ _ (fun y E' X' hLP=>?_))
   ·have r1:=hid i ri hRi r ob hf
    rcases hD r hDr with h | ⟨j,q,ob',k1,k2,k3⟩
    ·omega
    have r2:=hid j q k2 r ob' k3
    have hji:j=i:=by omega
    subst hji
    have:listed.getD j true=true:=by rw [Dq (by omega)];exact k1
    rw [h1] at this
    cases this
   obtain ⟨X'',hr'⟩:=hr.ext hLP o.dst nx hst (fun r ob hf=>by have:=hid i ri hRi r ob hf;omega) (Nat.le_refl _);exact hstep E' X'' _ hr' hLP.dom
  rw [hrr.guard hg,if_neg (by simp)];have hput:=hr.put o.dst hst (v:=(.lit undef)) (y:=undef) (by simp [FV]);refine hstep E X _ ?_ (fun r hr=> .inl hr);rw [hv,hnew];exact hput.sub (fun s v h=>h) (fun r ob h=>h) (Nat.le_refl _) rfl rfl
end late
def Mp (P:Program) (l:List Oper) (T:List (List Bool)) (σ:St) (nx K:Nat) (Q:St→Prop) (rest:List Oper) (R:List Res):Prop :=
 ∃ oK rest' dv r0 o0,rest=oK :: rest'∧oK.guard=none∧(∀ p ∈ dv,Al σ.slots p.1=none∧∀ q ∈ R,q.dst≠p.1) ∧
  (∀ i,i < K→DO T K i=false→∀ o q,l[i]?= some o→R[i]?= some q→o.dst=some q.dst→q.new=[]∧((AL (AU ⟨l⟩) ((C4 σ nx ((T[i]?).getD []) R).less r0) o.guard=some true∧Local P ((C4 σ nx ((T[i]?).getD []) R).less r0) o q.v [])∨(AL (AU ⟨l⟩) ((C4 σ nx ((T[i]?).getD []) R).less r0) o.guard=some false∧q.v= .lit undef))) ∧
  (∀ bs:List Bool,(∀ j,DO T K j=true→bs[j]?= some true)→Writer P (C4 σ nx bs R) oK ((C4 σ nx bs R).wr dv r0 o0))∧SeqL P ⟨l⟩ rest' ((FP σ nx R).wr dv r0 o0) Q
theorem MO {P:Program} {σ:St} {Q:Exit→St→Prop} {id:Nat} {l:List Oper} (T:List (List Bool)) (K:Nat) (hm:P.follows .mixedOrders=true) (hok:Gz l T σ K=true) (hTl:K≤T.length)
 (h:∀ Kt:St→Prop,(∀ σ',Q .normal σ'→Kt σ')→DP P l (AU ⟨l⟩) σ (σ.next+4 * K) (Mp P l T σ (σ.next+4 * K) K Kt) l (T.take K) []):Ev P (.region id ⟨l⟩ true) σ Q:=by
 simp only [Gz,Bool.and_eq_true,decide_eq_true_eq,List.all_eq_true] at hok;obtain ⟨⟨hc,hKl⟩,⟨hdj,hnd⟩,hdn⟩:=hok;have hKl:K < l.length:=Nat.le_of_ble_eq_true hKl
 have hTK:(T.take K).length=K:=by simp;omega
 obtain ⟨S,h1,h2,h3⟩:=Jg l (T.take K) [] (h (Q .normal) (fun _ h=>h)) (fun i hi=>by
  have hiK:i < K:=by omega
  have ho:l[i]?= some l[i]:=List.getElem?_eq_getElem (by omega);have:=(DB hc ho).1;have e:T[i]?= some T[i]:=List.getElem?_eq_getElem (by omega);rw [e] at this
  simpa using this)
 simp only [List.nil_append,List.length_nil,Nat.zero_add] at h2 h3;rw [hTK] at h1 h2 h3
 have hds:S.map (·.dst)=dstsL (l.take K):=by
  have key:∀ (n:Nat) (l':List Oper) (S':List Res),S'.length=n→l'.length=n→(∀ i,i < n→∃ o r,l'[i]?= some o∧S'[i]?= some r∧o.dst=some r.dst)→S'.map (·.dst)=dstsL l':=by
   intro n
   induction n with
   |zero =>
    intro l' S' e1 e2 _;rw [List.eq_nil_of_length_eq_zero e1,List.eq_nil_of_length_eq_zero e2];rfl
   |succ n ih =>
    intro l' S' e1 e2 hh
    match l',S',e1,e2 with
    |o :: l',r :: S',e1,e2 =>
     obtain ⟨o0,r0,k1,k2,k3⟩:=hh 0 (by omega);simp only [List.getElem?_cons_zero,Option.some.injEq] at k1 k2;subst k1 k2;simp only [List.map_cons,dstsL,k3]
     rw [ih l' S' (by simpa using e1) (by simpa using e2) (fun i hi=>by
      obtain ⟨o1,r1,j1,j2,j3⟩:=hh (i+1) (by omega)
      exact ⟨o1,r1,by simpa using j1,by simpa using j2,j3⟩)]
  refine key K (l.take K) S h1 (by simp;omega) (fun i hi=>?_);obtain ⟨o,r,k1,k2,k3,_⟩:=h3 i hi;exact ⟨o,r,by rw [List.getElem?_take,if_pos hi];exact k1,k2,k3⟩
 have hst:∀ bs,C5 σ (S.map (·.dst)) (σ.next+4 * K) bs S=C4 σ (σ.next+4 * K) bs S:=by
  intro bs;simp only [C5,C4,hds,GL hdj]
 intro C E X a hr;refine wp_region_any hm ?_;have hr':=hr.drew;have hσ:∀ k o,Al σ.objs k=some o→k < σ.next:=fun k o hk=>hr.fresh k (hr.objs k o hk).1
 have hR:∀ i,i < K→Lq P l σ (S.map (·.dst)) (σ.next+4 * K) K T S i:=by
  intro i hi o r ho hSr;obtain ⟨o',r',k1,k2,k3,k4,k5⟩:=h3 i hi;rw [ho] at k1;rw [hSr] at k2;simp only [Option.some.injEq] at k1 k2;subst k1 k2;refine ⟨k3,?_,fun k ob hf=>Fz k4 k ob hf,?_⟩
  ·have:r.dst ∈ dstsL (l.take K):=by rw [← hds];exact List.mem_map.2 ⟨r,List.mem_of_getElem? hSr,rfl⟩
   exact Nat.le_of_ble_eq_true (hdn _ this)
  rw [hst]
  have e:((T.take K)[i]?).getD []=(T[i]?).getD []:=by rw [List.getElem?_take,if_pos hi]
  rw [e] at k5;exact k5
 have hall:C5 σ (S.map (·.dst)) (σ.next+4 * K) (List.replicate K true) S=FP σ (σ.next+4 * K) S:=by
  rw [hst];simp only [C4,FP];rw [← h1,slotsM_all,objsM_all]
 obtain ⟨oK,rest',dv,r0,o0,g1,g2,g3,g4,g5,g6⟩:=h2
 have hoK:l[K]?= some oK:=by
  have:=congrArg List.head? g1
  simpa [List.head?_drop] using this
 have hrest:l.drop (K+1)=rest':=by
  rw [← List.drop_drop,g1];rfl
 have hgoal:=Oi (P:=P) (dv:=dv) (nx:=σ.next+4 * K) (C:=C) (Q:=fun e a' w'=>∃ E' X' σ',E'.w=w'∧Rel C E' X' σ' a'∧Q e σ') hc hoK g2 h1 (by rw [hds];exact hnd) hR (Nat.le_refl _) hσ (fun i hi hb o q h1' h2' h3'=>by rw [hst];exact g4 i hi hb o q h1' h2' h3') g3 (fun bs hbs=>by
  rw [hst]
  exact g5 bs hbs) (fun E X a hr2=>by
  rw [hall] at hr2;rw [hrest]
  exact g6 C E X a hr2 _ (fun E' X' σ' a' hr3 hq=>⟨E',X',σ',rfl,hr3,hq⟩))
  l.length (Array.replicate l.length false) { E with w:=E.w.drew } X a (by simp) ?_ ?_ ?_ ?_ ?_
 ·simpa using hgoal
 ·have:∀ n,n≤l.length→(List.range n).countP (fun j=> !(Array.replicate l.length false).getD j true)=n:=by
   intro n
   induction n with
   |zero=>intro _;simp
   |succ n ih =>
    intro hn;rw [List.range_succ,List.countP_append,ih (by omega),List.countP_singleton]
    simp [Array.getD,show n < l.length by omega]
  exact this _ (Nat.le_refl _)
 ·intro i o _ hl
  simp [Array.getD] at hl
 ·intro i _
  simp [Array.getD]
 ·have hb:∀ j:Nat,(B4 K (Array.replicate l.length false))[j]?≠some true:=by
   intro j hj;have:=(Co.1 hj).2
   simp [Array.getD] at this
  refine hr'.sub ?_ ?_ (by simp [C5]) rfl rfl
  ·intro s v hv;simp only [C5,hds,GL hdj] at hv;rw [AZ] at hv
   cases g:Al (slotsM (B4 K (Array.replicate l.length false)) S) s with
   |some u =>
    obtain ⟨j,r,g1,_⟩:=find_slotsM _ S s u g;exact absurd g1 (hb j)
   |none=>rw [g] at hv;simpa using hv
  intro k o hv;simp only [C5] at hv;rw [AZ] at hv
  cases g:Al (objsM (B4 K (Array.replicate l.length false)) S) k with
  |some u =>
   obtain ⟨j,r,g1,_⟩:=find_objsM _ S k u g;exact absurd g1 (hb j)
  |none=>rw [g] at hv;simpa using hv
 intro r hD;exact .inl (hr.fresh r hD)
end Go.AM
