/-
  Part 10 of the proof: the abstract machine, proved sound over the model.
  Conditions: none.
-/
import Derived.OrdersHeld
import Derived.Test.YtaololdbooblkaaGreatDoorX9
set_option linter.unusedVariables false
set_option linter.unusedSimpArgs false
set_option linter.unusedSectionVars false
namespace Go.AM
def Hg (Fin:Act→World→Prop):Exit→Act→World→Prop:=fun e a w=>e= .normal∧Fin a w
theorem FY {a:Act} {dst:Option Nat} {v:Value} {t:Nat} (h:dst≠some t):(a.put dst v).tmps[t]?= a.tmps[t]?:=by
 cases dst with
 |none=>rfl
 |some d =>
  have hd:d≠t:=fun e=>h (by rw [e])
  show (a.tmps.setIfInBounds d v)[t]?= _
  rw [Array.getElem?_setIfInBounds,if_neg hd]
theorem XI {P:Program} {o:Oper} {a:Act} {w:World} {next:Act→World→Prop} {Fin Fin':Act→World→Prop} {t:Nat} (hd:o.dst≠some t) (h:o.wp P a w next (Hg Fin)) :
 o.wp P a w (fun a' w'=>next a' w'∧a'.tmps[t]?= a.tmps[t]?) (Hg Fin'):=by
 unfold Oper.wp at h ⊢
 generalize (execOp a.eval o).run P w=r at *
 cases r with
 |ok n w' =>
  cases n <;> simp only [Oper.upon] at h ⊢
  case value u=>exact ⟨h,FY hd⟩
  case skip=>exact ⟨h,FY hd⟩
  case defer d=>exact ⟨h,FY (a:={ a with defers:=d :: a.defers }) hd⟩
  case enter f args =>
   refine Calls.mono h fun e w'' he=>?_
   cases e with
   |returned u=>exact ⟨he,FY hd⟩
   |panicked c=>exact absurd he.1 (by intro h;cases h)
   |outgrown =>
    obtain ⟨a0,w0,h0,_⟩:=he
    cases h0
  case row row args=>exact Rows.mono h fun u w'' he=>⟨he,FY hd⟩
 |halt x w' =>
  cases x <;> simp only [Oper.upon] at h ⊢
  case panic u=>exact absurd h.1 (by intro h;cases h)
theorem SY {P:Program} {l:List Oper} {σ:St} {o:Oper} {Qs:St→Prop} {C:Ctx} {E:Env} {X:Nat→List Value} {a:Act} {i t:Nat} {K Fin:Act→World→Prop} (h:SeqL P ⟨l⟩ [o] σ Qs) (hr:Rel C E X σ a) (ho:l[i]?= some o) (hd:o.dst≠some t)
 (hK:∀ E' X' σ' a',Rel C E' X' σ' a'→Qs σ'→a'.tmps[t]?= a.tmps[t]?→K a' E'.w):wpOp P ⟨l⟩ (Hg Fin) i K a E.w:=by
 have h1:=h C E X a hr (Hg fun a' w'=>∃ E' X' σ',E'.w=w'∧Rel C E' X' σ' a'∧Qs σ') (fun E' X' σ' a' h1 h2=>⟨rfl,E',X',σ',rfl,h1,h2⟩);rw [CW] at h1
 have ho':(⟨l⟩:Array Oper)[i]?= some o:=by rw [List.getElem?_toArray];exact ho
 have hnx:∀ a' w',F7 P ⟨l⟩ (Hg fun a' w'=>∃ E' X' σ',E'.w=w'∧Rel C E' X' σ' a'∧Qs σ') [] a' w'∧a'.tmps[t]?= a.tmps[t]?→K a' w':=by
  rintro a' w' ⟨h2,h3⟩;rw [Gd] at h2;obtain ⟨_,E',X',σ',rfl,h4,h5⟩:=h2;exact hK E' X' σ' a' h4 h5 h3
 unfold wpOp
 rw [ho']
 simp only
 split at h1
 ·rename_i hw
  rw [if_pos hw];exact .inl (Oper.wp_mono (fun a' w' h2=>hnx a' w' h2) (XI hd h1))
 rename_i hw
 rw [if_neg hw];exact hnx _ _ ⟨h1,FY hd⟩
def PureW (P:Program) (σ:St) (o:Oper) (v:AV):Prop :=
 ∀ C E X a,Rel C E X σ a→∃ y,FV E v y∧∀ w:World,(execOp a.eval o).run P w= .ok (.value y) w
def HT (P:Program) (l:List Oper) (t:Nat) (hb:St→Prop):Nat→Array Bool→St→(St→Prop)→Prop
 |0,L,σ,Q=>hb σ∧Region.ready .any ⟨l⟩ L=[]∧Q σ
 |n+1,L,σ,Q=>hb σ∧((Region.ready .any ⟨l⟩ L≠[]∧∀ i ∈ Region.ready .any ⟨l⟩ L,∃ o,l[i]?= some o∧o.dst≠some t∧SeqL P ⟨l⟩ [o] σ fun σ'=>HT P l t hb n (L.setIfInBounds i true) σ' Q) ∨
   (∃ (i d:Nat) (o:Oper) (v:AV),l[i]?= some o∧o.dst=some d∧d≠t∧d < σ.nt∧AL (AU ⟨l⟩) σ o.guard=some true∧PureW P σ o v∧Region.noSelect ⟨l⟩=true∧Region.free .any ⟨l⟩ L i=true∧(Region.ready .any ⟨l⟩ L).contains i=true∧HT P l t hb n (L.setIfInBounds i true) (σ.put (some d) v) Q) ∨
   ∃ (i d:Nat) (o:Oper),l[i]?= some o∧o.dst=some d∧d≠t∧d < σ.nt∧AL (AU ⟨l⟩) σ o.guard=some false∧Region.noSelect ⟨l⟩=true∧Region.free .any ⟨l⟩ L i=true∧(Region.ready .any ⟨l⟩ L).contains i=true∧HT P l t hb n (L.setIfInBounds i true) (σ.put (some d) (.lit undef)) Q)
theorem HT.hb {P:Program} {l:List Oper} {t:Nat} {hb:St→Prop} {n:Nat} {L:Array Bool} {σ:St} {Q:St→Prop} (h:HT P l t hb n L σ Q):hb σ:=by
 cases n with
 |zero=>exact h.1
 |succ _=>exact h.1
theorem Pr {P:Program} {l:List Oper} {S:World→Prop} {Fin:Act→World→Prop} {fuel i d:Nat} {L:Array Bool} {C:Ctx} {E:Env} {X:Nat→List Value} {σ:St} {a:Act} {o:Oper} {v:AV} {y:Value} (hr:Rel C E X σ a) (ho:l[i]?= some o) (hd:o.dst=some d) (hdn:d < σ.nt) (hg:AL (AU ⟨l⟩) σ o.guard=some true)
 (h1:Region.noSelect ⟨l⟩=true) (h2:Region.free .any ⟨l⟩ L i=true) (h3:(Region.ready .any ⟨l⟩ L).contains i=true) (hS:S E.w) (hy:∀ w,S w→(execOp a.eval o).run P w= .ok (.value y) w) (hv:FV E v y)
 (h:Rel C E X (σ.put (some d) v) (a.put (some d) y)→wpAnyH P .any ⟨l⟩ (Hg Fin) S fuel (L.setIfInBounds i true) (a.put (some d) y) E.w):wpAnyH P .any ⟨l⟩ (Hg Fin) S (fuel+1) L a E.w:=by
 have ho':(⟨l⟩:Array Oper)[i]?= some o:=by rw [List.getElem?_toArray];exact ho
 refine wpAnyH_take (v:=y) ho' h1 h2 h3 (fun c a w hq=>absurd hq.1 (by intro h;cases h)) (.inl ⟨hr.guard hg,hy⟩) hS ?_;rw [hd];exact h (hr.put (some d) (fun d' e=>by cases e;exact hdn) hv)
theorem HQ {P:Program} {l:List Oper} {t:Nat} {hb:St→Prop} {S:World→Prop} {C:Ctx} {Qn:St→Prop} {v0:Option Value} (hS:∀ E X σ a,Rel C E X σ a→hb σ→a.tmps[t]?= v0→S E.w) :
 ∀ (n:Nat) (L:Array Bool) (E:Env) (X:Nat→List Value) (σ:St) (a:Act),Rel C E X σ a→HT P l t hb n L σ Qn→a.tmps[t]?= v0 →
  wpAnyH P .any ⟨l⟩ (Hg fun a' w'=>∃ E' X' σ',E'.w=w'∧Rel C E' X' σ' a'∧Qn σ') S n L a E.w
 |0,L,E,X,σ,a,hr,h,ht=>⟨h.2.1,rfl,E,X,σ,rfl,hr,h.2.2⟩
 |n+1,L,E,X,σ,a,hr,h,ht=>by
  obtain ⟨hb0,⟨hne,hs⟩ | ⟨i,d,o,v,ho,hdst,hdt,hdn,hg,hx,hsel,hf,hc,hnext⟩ | ⟨i,d,o,ho,hdst,hdt,hdn,hg,hsel,hf,hc,hnext⟩⟩:=h
  ·refine wpAnyH_all rfl hne fun i hi=>?_;obtain ⟨o,ho,hd,hs⟩:=hs i hi;refine SY hs hr ho hd fun E' X' σ' a' hr' hq ht'=>?_;have ht2:=ht'.trans ht;exact ⟨hS _ _ _ _ hr' hq.hb ht2,HQ hS n _ E' X' σ' a' hr' hq ht2⟩
  ·obtain ⟨y,hv,hrun⟩:=hx C E X a hr;exact Pr hr ho hdst hdn hg hsel hf hc (hS _ _ _ _ hr hb0 ht) (fun w _=>hrun w) hv fun hr1=>HQ hS n _ E X _ _ hr1 hnext ((FY (fun e=>hdt (by simpa using e))).trans ht)
  ·have ho':(⟨l⟩:Array Oper)[i]?= some o:=by rw [List.getElem?_toArray];exact ho
   refine wpAnyH_take (v:=undef) ho' hsel hf hc (fun c a w hq=>absurd hq.1 (by intro h;cases h)) (.inr ⟨hr.guard hg,rfl⟩) (hS _ _ _ _ hr hb0 ht) ?_;rw [hdst];exact HQ hS n _ E X _ _ (hr.put (some d) (fun d' e=>by cases e;exact hdn) (by simp [FV])) hnext ((FY (fun e=>hdt (by simpa using e))).trans ht)
theorem VN {P:Program} {a:Act} {w:World} {o:Oper} {x:Operand} {ad:Addr} (ho:o.op= .nilCheck x) (he:a.eval x= .pointer (some ad)):(execOp a.eval o).run P w= .ok (.value (.pointer (some ad))) w:=by
 unfold execOp
 simp [ho,he]
section
variable {P:Program} {s:List (Nat × AV)} {b:List (Nat × Obj)} {n t e:Nat} {Q:Exit→St→Prop}
theorem HT.one {P:Program} {l:List Oper} {t i m:Nat} {hb:St→Prop} {L:Array Bool} {σ:St} {Q:St→Prop} {o:Oper} (h0:hb σ) (ho:l[i]?= some o) (h:SeqL P ⟨l⟩ [o] σ fun σ'=>HT P l t hb m (L.setIfInBounds i true) σ' Q) (hr:Region.ready .any ⟨l⟩ L=[i]:=by kernel_rfl) (hd:o.dst≠some t:=by decide):HT P l t hb (m+1) L σ Q :=
 ⟨h0, .inl ⟨by rw [hr];simp,fun j hj=>by rw [hr] at hj;obtain rfl:=List.mem_singleton.1 hj;exact ⟨o,ho,hd,h⟩⟩⟩
theorem By {P:Program} {l:List Oper} {t i j m:Nat} {hb:St→Prop} {L:Array Bool} {σ:St} {Q:St→Prop} {o o':Oper} (h0:hb σ) (ho:l[i]?= some o) (ho':l[j]?= some o') (h:SeqL P ⟨l⟩ [o] σ fun σ'=>HT P l t hb m (L.setIfInBounds i true) σ' Q) (h':SeqL P ⟨l⟩ [o'] σ fun σ'=>HT P l t hb m (L.setIfInBounds j true) σ' Q)
 (hr:Region.ready .any ⟨l⟩ L=[i,j]:=by kernel_rfl) (hd:o.dst≠some t:=by decide) (hd':o'.dst≠some t:=by decide):HT P l t hb (m+1) L σ Q :=
 ⟨h0, .inl ⟨by rw [hr];simp,fun k hk=>by
   rw [hr] at hk;simp only [List.mem_cons,List.not_mem_nil,or_false] at hk
   rcases hk with rfl | rfl
   ·exact ⟨o,ho,hd,h⟩
   ·exact ⟨o',ho',hd',h'⟩⟩⟩
theorem OY {x:Operand} {v:AV} {d:Option Nat} {ty:Nat} {pos:String} {aft:Array Edge} {g:Option (Nat × Bool)} (hx:AJ s x=some v):PureW P ⟨s,b,n,t,e⟩ ⟨d, .move x,ty,pos,aft,g⟩ v:=by
 intro C E X a hr;have hv:=hr.ev x;rw [AB hx] at hv;refine ⟨_,hv,fun w=>?_⟩
 unfold execOp
 simp
theorem UE {st:TypeId} {x:Operand} {f off ft:Nat} {v u:AV} {d:Option Nat} {ty:Nat} {pos:String} {aft:Array Edge} {g:Option (Nat × Bool)} (hf:AX P st f=some (off,ft)) (hz:P.cellsOf ft≠0) (hx:AJ s x=some v) (hu:Gu off v=some u):PureW P ⟨s,b,n,t,e⟩ ⟨d, .fieldAddr st x f,ty,pos,aft,g⟩ u:=by
 intro C E X a hr;have hv:=hr.ev x;rw [AB hx] at hv;obtain ⟨ad,hxe,hfv⟩:=FV.shift hu hv;refine ⟨_,hfv,fun w=>?_⟩
 unfold AX at hf
 split at hf
 ·rename_i fs hus
  simp only [Option.map_eq_some_iff] at hf;obtain ⟨fl,hfl,he⟩:=hf;simp only [Prod.mk.injEq] at he;obtain ⟨rfl,rfl⟩:=he
  cases hi:P.info? fl.type with
  |none=>simp [Program.cellsOf,hi] at hz
  |some i =>
   rw [B8 hi] at hz
   unfold execOp
   simp [Instr.fieldAt,run_underlying hus,hfl,hxe,Instr.sureAddr,fieldPlace,Cl hi,hz]
 cases hf
theorem E6 {P:Program} {l:List Oper} {t i j k m:Nat} {hb:St→Prop} {L:Array Bool} {σ:St} {Q:St→Prop} {o o' o'':Oper} (h0:hb σ) (ho:l[i]?= some o) (ho':l[j]?= some o') (ho'':l[k]?= some o'') (h:SeqL P ⟨l⟩ [o] σ fun σ'=>HT P l t hb m (L.setIfInBounds i true) σ' Q) (h':SeqL P ⟨l⟩ [o'] σ fun σ'=>HT P l t hb m (L.setIfInBounds j true) σ' Q) (h'':SeqL P ⟨l⟩ [o''] σ fun σ'=>HT P l t hb m (L.setIfInBounds k true) σ' Q)
 (hr:Region.ready .any ⟨l⟩ L=[i,j,k]:=by kernel_rfl) (hd:o.dst≠some t:=by decide) (hd':o'.dst≠some t:=by decide) (hd'':o''.dst≠some t:=by decide):HT P l t hb (m+1) L σ Q :=
 ⟨h0, .inl ⟨by rw [hr];simp,fun q hq=>by
   rw [hr] at hq;simp only [List.mem_cons,List.not_mem_nil,or_false] at hq
   rcases hq with rfl | rfl | rfl
   ·exact ⟨o,ho,hd,h⟩
   ·exact ⟨o',ho',hd',h'⟩
   ·exact ⟨o'',ho'',hd'',h''⟩⟩⟩
theorem XN {P:Program} {l:List Oper} {tt i m d:Nat} {o:Oper} {hb:St→Prop} {L:Array Bool} {Q:St→Prop} {v:AV} (h0:hb ⟨s,b,n,t,e⟩) (ho:l[i]?= some o) (hod:o.dst=some d) (hx:PureW P ⟨s,b,n,t,e⟩ o v) (hdn:Nat.blt d t=true:=by exact rfl) (hg:AL (AU ⟨l⟩) ⟨s,b,n,t,e⟩ o.guard=some true:=by exact rfl) (hc:(Region.noSelect ⟨l⟩ && Region.free .any ⟨l⟩ L i && (Region.ready .any ⟨l⟩ L).contains i)=true:=by kernel_rfl) (hd:d≠tt:=by decide)
 (h:HT P l tt hb m (L.setIfInBounds i true) ⟨(d,v) :: s,b,n,t,e⟩ Q):HT P l tt hb (m+1) L ⟨s,b,n,t,e⟩ Q:=by
 simp only [Bool.and_eq_true] at hc;exact ⟨h0, .inr (.inl ⟨i,d,_,v,ho,hod,hd,Nat.le_of_ble_eq_true hdn,hg,hx,hc.1.1,hc.1.2,hc.2,h⟩)⟩
theorem XM {P:Program} {l:List Oper} {tt i m d ty:Nat} {g:Option (Nat × Bool)} {hb:St→Prop} {L:Array Bool} {Q:St→Prop} {x:Operand} {v:AV} {pos:String} {aft:Array Edge} (h0:hb ⟨s,b,n,t,e⟩) (ho:l[i]?= some ⟨some d, .move x,ty,pos,aft,g⟩) (hx:AJ s x=some v:=by exact rfl) (hdn:Nat.blt d t=true:=by exact rfl) (hg:AL (AU ⟨l⟩) ⟨s,b,n,t,e⟩ g=some true:=by exact rfl) (hc:(Region.noSelect ⟨l⟩ && Region.free .any ⟨l⟩ L i && (Region.ready .any ⟨l⟩ L).contains i)=true:=by kernel_rfl) (hd:d≠tt:=by decide)
 (h:HT P l tt hb m (L.setIfInBounds i true) ⟨(d,v) :: s,b,n,t,e⟩ Q):HT P l tt hb (m+1) L ⟨s,b,n,t,e⟩ Q:=XN h0 ho rfl (OY hx) hdn hg hc hd h
theorem Bc {P:Program} {l:List Oper} {t:Nat} {hb:St→Prop} {L:Array Bool} {σ:St} {Q:St→Prop} (h0:hb σ) (hr:Region.ready .any ⟨l⟩ L=[]) (h:Q σ):HT P l t hb 0 L σ Q:=⟨h0,hr,h⟩
theorem W6 {l:List Oper} {id m:Nat} {L0:Array Bool} (tp:Nat) (hlen:l.length=m) (h4:Array.replicate l.length false=L0) (hm:P.follows .mixedOrders=true)
 (h:∀ Kt:St→Prop,(∀ σ',Q .normal σ'→Kt σ')→HT P l tp (fun _=>True) m L0 ⟨s,b,n,t,e⟩ Kt):Ev P (.region id ⟨l⟩ true) ⟨s,b,n,t,e⟩ Q:=by
 subst h4 hlen;intro C E X a hr
 refine wp_mono (wp_region_held (Q:=Hg fun a' w'=>∃ E' X' σ',E'.w=w'∧Rel C E' X' σ' a'∧Q .normal σ') (S:=fun _=>True) hm ?_) (fun e' a' w' hq=>by
  obtain ⟨rfl,E',X',σ',h1,h2,h3⟩:=hq
  exact ⟨E',X',σ',h1,h2,h3⟩)
 exact HQ (S:=fun _=>True) (hb:=fun _=>True) (v0:=a.tmps[tp]?) (fun _ _ _ _ _ _ _=>trivial) _ _ { E with w:=E.w.drew } X _ a hr.drew (h _ fun _ h=>h) rfl
theorem W7 {l:List Oper} {id m:Nat} {L0:Array Bool} {y:Code} (tp:Nat) (hlen:l.length=m) (h4:Array.replicate l.length false=L0) (hm:P.follows .mixedOrders=true)
 (h:∀ Kt:St→Prop,(∀ σ',Ev P y σ' Q→Kt σ')→HT P l tp (fun _=>True) m L0 ⟨s,b,n,t,e⟩ Kt):Ev P (.seq (.region id ⟨l⟩ true) y) ⟨s,b,n,t,e⟩ Q :=
 Aj (W6 tp hlen h4 hm fun Kt hK=>h Kt fun σ' h'=>hK σ' h')
end
def Lp (P:Program) (σ:St) (o:Oper) (v:AV):Prop :=
 ∀ C E X a,Rel C E X σ a→∃ y,FV E v y∧∀ w:World,(∀ b,E.S b→w.heap[b]?= E.w.heap[b]?)→(execOp a.eval o).run P w= .ok (.value y) w
inductive HP (P:Program) (l:List Oper):Nat→Array Bool→St→(St→Prop)→Prop
 |done {n:Nat} {L:Array Bool} {σ:St} {Q:St→Prop} (h:HT P l 1000000 (fun _=>True) n L σ Q):HP P l n L σ Q
 |take {n i d:Nat} {L L':Array Bool} {σ:St} {Q:St→Prop} {o:Oper} {v:AV} (ho:l[i]?= some o) (hd:o.dst=some d) (hdn:d < σ.nt) (hdt:d≠1000000) (hg:AL (AU ⟨l⟩) σ o.guard=some true) (hc:(Region.noSelect ⟨l⟩ && Region.free .any ⟨l⟩ L i && (Region.ready .any ⟨l⟩ L).contains i)=true) (hL:L.setIfInBounds i true=L') (hp:Lp P σ o v) (h:HP P l n L' (σ.put (some d) v) Q):HP P l (n+1) L σ Q
theorem Q2 {P:Program} {l:List Oper} {C:Ctx} {E:Env} {X:Nat→List Value} {Qn:St→Prop} (hS:∀ E' X' σ' a',Rel C E' X' σ' a'→∀ b,E.S b→E'.w.heap[b]?= E.w.heap[b]?) {n:Nat} {L:Array Bool} {σ:St} (h:HP P l n L σ Qn) :
 ∀ (a:Act),Rel C E X σ a→wpAnyH P .any ⟨l⟩ (Hg fun a' w'=>∃ E' X' σ',E'.w=w'∧Rel C E' X' σ' a'∧Qn σ') (fun w=>∀ b,E.S b→w.heap[b]?= E.w.heap[b]?) n L a E.w:=by
 induction h with
 |done h =>
  intro a hr;exact HQ (hb:=fun _=>True) (v0:=a.tmps[1000000]?) (fun E' X' σ' a' h1 _ _=>hS E' X' σ' a' h1) _ _ E X _ a hr h rfl
 |take ho hd hdn hdt hg hc hL hp h ih =>
  intro a hr;subst hL;simp only [Bool.and_eq_true] at hc;obtain ⟨y,hy,hrun⟩:=hp C E X a hr;exact Pr hr ho hd hdn hg hc.1.1 hc.1.2 hc.2 (fun b _=>rfl) hrun hy fun hr1=>ih _ hr1
def Ctx.at (C:Ctx) (E:Env) (σ:St):Ctx:={ C with w0:=E.w,own:=fun b=>∃ r o,Al σ.objs r=some o∧blockOf (E.H r)=some b,S0:=E.S }
theorem Rel.rebase {C:Ctx} {E:Env} {X:Nat→List Value} {σ:St} {a:Act} (h:Rel C E X σ a):Rel (C.at E σ) E X σ a :=
 ⟨h.slots,h.size,h.defers,h.objs,h.apart,h.stay,h.fresh,Keep.refl _ _,fun r o b h1 h2=> .inl ⟨r,o,h1,h2⟩,h.env,h.envD,fun b hb=>hb,fun b hb=> .inl hb,h.envk,h.glob⟩
theorem Rel.unbase {C:Ctx} {E E':Env} {X X':Nat→List Value} {σ σ':St} {a a':Act} (h:Rel C E X σ a) (h':Rel (C.at E σ) E' X' σ' a'):Rel C E' X' σ' a':=by
 have hown:∀ b,(C.at E σ).own b→C.own b∨C.w0.heap.size≤b:=fun b ⟨r,o,h1,h2⟩=>h.mine r o b h1 h2;have hsz:=h.kept.size;refine ⟨h'.slots,h'.size,h'.defers,h'.objs,h'.apart,h'.stay,h'.fresh,⟨h'.kept.os.trans h.kept.os,h.kept.tape.trans h'.kept.tape,h'.kept.output.trans h.kept.output,Nat.le_trans hsz h'.kept.size,fun b hb hn=>?_⟩,fun r o b h1 h2=>?_,h'.env,h'.envD,fun b hb=>h'.base b (h.base b hb),fun b hb=>?_,h'.envk,h'.glob⟩
 ·refine (h'.kept.block b (Nat.lt_of_lt_of_le hb hsz) fun ho=>?_).trans (h.kept.block b hb hn)
  rcases hown b ho with h1 | h1
  ·exact hn h1
  omega
 ·rcases h'.mine r o b h1 h2 with h3 | h3
  ·exact hown b h3
  exact .inr (Nat.le_trans hsz h3)
 rcases h'.grow b hb with h3 | h3 | h3
 ·exact h.grow b h3
 ·exact .inr (.inl (Nat.le_trans hsz h3))
 rcases hown b h3 with h4 | h4
 ·exact .inr (.inr h4)
 exact .inr (.inl h4)
theorem Rel.at_keeps {C:Ctx} {E E':Env} {X X':Nat→List Value} {σ σ':St} {a a':Act} (h:Rel C E X σ a) (h':Rel (C.at E σ) E' X' σ' a'):∀ b,E.S b→E'.w.heap[b]?= E.w.heap[b]?:=fun b hb =>
 h'.kept.block b (h.stay b hb).1 fun ⟨r,o,h1,h2⟩=>(h.stay b hb).2 r o h1 h2
section
variable {P:Program} {s:List (Nat × AV)} {b:List (Nat × Obj)} {n t e:Nat} {Q:Exit→St→Prop}
theorem Ll {l:List Oper} {id m:Nat} {L0:Array Bool} (hlen:l.length=m) (h4:Array.replicate l.length false=L0) (hm:P.follows .mixedOrders=true)
 (h:∀ Kt:St→Prop,(∀ σ',Q .normal σ'→Kt σ')→HP P l m L0 ⟨s,b,n,t,e⟩ Kt):Ev P (.region id ⟨l⟩ true) ⟨s,b,n,t,e⟩ Q:=by
 subst h4 hlen;intro C E X a hr;have hrd:=hr.drew
 refine wp_mono (wp_region_held (Q:=Hg fun a' w'=>∃ E' X' σ',E'.w=w'∧Rel (C.at { E with w:=E.w.drew } ⟨s,b,n,t,e⟩) E' X' σ' a'∧Q .normal σ') (S:=fun w=>∀ b,E.S b→w.heap[b]?= E.w.drew.heap[b]?) hm ?_) (fun e' a' w' hq=>by
  obtain ⟨rfl,E',X',σ',h1,h2,h3⟩:=hq
  exact ⟨E',X',σ',h1,hrd.unbase h2,h3⟩)
 exact Q2 (E:={ E with w:=E.w.drew }) (fun E' X' σ' a' h1=>hrd.at_keeps h1) (h _ fun _ h=>h) a hrd.rebase
theorem J8 {l:List Oper} {id m:Nat} {L0:Array Bool} {y:Code} (hlen:l.length=m) (h4:Array.replicate l.length false=L0) (hm:P.follows .mixedOrders=true)
 (h:∀ Kt:St→Prop,(∀ σ',Ev P y σ' Q→Kt σ')→HP P l m L0 ⟨s,b,n,t,e⟩ Kt):Ev P (.seq (.region id ⟨l⟩ true) y) ⟨s,b,n,t,e⟩ Q :=
 Aj (Ll hlen h4 hm fun Kt hK=>h Kt fun σ' h'=>hK σ' h')
theorem IS {P:Program} {σ:St} {o:Oper} {v:AV} (h:PureW P σ o v):Lp P σ o v:=fun C E X a hr=>by
 obtain ⟨y,h1,h2⟩:=h C E X a hr;exact ⟨y,h1,fun w _=>h2 w⟩
theorem Wc {st el c:TypeId} {x y:Operand} {k:IntKind} {i:Int} {rows:List (List AV)} {row:List AV} {d:Option Nat} {ty:Nat} {pos:String} {aft:Array Edge} {g:Option (Nat × Bool)} (hel:A9 P st=some el) (hcl:P.cellsOf el=c) (hc:c≠0) (hx:AJ s x=some (.sh c rows)) (hy:AJ s y=some (.lit (.int k i))) (h0:0≤i) (hr':rows[i.toNat]?= some row):Lp P ⟨s,b,n,t,e⟩ ⟨d, .indexAddr st x y,ty,pos,aft,g⟩ (.sadr row 0):=by
 intro C E X a hr;have hix:=hr.ev y;rw [AB hy] at hix;simp only [FV] at hix;have hu:=BL hel;subst hcl
 cases hi:P.info? el with
 |none=>simp [Program.cellsOf,hi] at hc
 |some i' =>
 have hv:=hr.ev x;rw [AB hx] at hv;have hcs:P.cellsOf el=i'.size:=B8 hi;simp only [FV] at hv;obtain ⟨A,c',xs,hxe,hcap,hrr,hA⟩:=hv;have hlt:i.toNat < rows.length:=(List.getElem?_eq_some_iff.1 hr').1;obtain ⟨a0,rfl,hs,hS,hh⟩:=hA (by intro e;rw [e] at hlt;simp at hlt);have hg:=hrr.get hr';refine ⟨.pointer (some (a0.add (i.toNat * i'.size))),?_,fun w _=>?_⟩
 ·simp only [FV];refine ⟨a0.add (i.toNat * i'.size),(xs.drop (i.toNat * P.cellsOf el)).take (P.cellsOf el),?_,Dp _ hs _,by rw [Dm];exact hS,hg.2,?_⟩
  ·rw [Addr.add_zero']
  rw [hcs];exact (hh.drop hs _).take _
 unfold execOp
 have hlt':0≤i∧i < (rows.length:Int):=by omega
 simp only [Instr.indexAt,hix,asIntOf,hxe,Sem.run_bind,Sem.run_pure,Result.andThen_ok,run_underlying hu,hlt',and_self,if_true,Cl hi]
theorem Wd {lt:TypeId} {x:Operand} {row:List AV} {j:Nat} {u:AV} {d:Option Nat} {ty:Nat} {pos:String} {aft:Array Edge} {g:Option (Nat × Bool)} (hx:AJ s x=some (.sadr row j)) (hl:AM.EI P ⟨s,b,n,t,e⟩ lt (.sadr row j)=some u):Lp P ⟨s,b,n,t,e⟩ ⟨d, .load lt x,ty,pos,aft,g⟩ u:=by
 intro C E X a hr;have hv:=hr.ev x;rw [AB hx] at hv;simp only [FV] at hv;obtain ⟨ad,xs,hxe,hs,hSb,hc,hh⟩:=hv;have hcs:FVc E (row.drop j) (xs.drop j):=FVc.le _ E.clear_le _ (hc.drop j)
 have hh2:∀ w:World,(∀ b,E.S b→w.heap[b]?= E.w.heap[b]?)→holds w (ad.add j) (xs.drop j):=fun w hw=>by
  have hw2:holds w ad xs:=fun k u hk=>by
   have h1:=hh k u hk
   have h2:w.heap[(ad.add k).block]?= E.w.heap[(ad.add k).block]?:=by rw [Dm];exact hw _ hSb
   unfold World.cell? at h1 ⊢
   rw [h2];exact h1
  exact hw2.drop hs j
 unfold AM.EI at hl
 split at hl
 ·rename_i cs ht hcf
  simp only [CM,Option.some.injEq] at hcf;subst hcf
  cases hble:Nat.ble (P.cellsOf lt) (row.drop j).length with
  |false=>rw [hble] at hl;cases hl
  |true =>
   rw [hble] at hl;simp only [cond_true,Option.some.injEq] at hl;subst hl;have hle:=CG hble;have ht':=ht
   unfold Bi at ht
   cases hu:P.underlying lt with
   |none=>simp [hu] at ht
   |some dd =>
    obtain ⟨i,hi⟩:=Fk hu;have hsz:=B8 hi
    have hlen:((xs.drop j).take i.size).length=i.size:=by rw [List.length_take,hcs.length, ← hsz];omega
    refine ⟨.agg ((xs.drop j).take i.size).toArray,?_,fun w hw=>?_⟩
    ·simp only [FV];exact ⟨_,rfl,by rw [hsz];exact hcs.take _⟩
    have hrun:=run_loadCells_list (P:=P) (w:=w) (ad.add j) ((xs.drop j).take i.size) ((hh2 w hw).take _);rw [hlen] at hrun
    unfold execOp
    simp [hxe,Instr.loadAt,Instr.sureAddr,loadVar,Ga (P:=P) (t:=lt) (b:=true) ht',Cl hi,hrun]
 ·rename_i c cs ht hcf
  simp only [Option.some.injEq] at hl;subst hl;simp only [CM,Option.some.injEq] at hcf;rw [hcf] at hcs;obtain ⟨y,hy,_,hv⟩:=hcs.get (j:=0) (c:=c) rfl;refine ⟨y,hv,fun w hw=>?_⟩;have hcell:=hh2 w hw 0 y hy;rw [Addr.add_zero'] at hcell
  unfold execOp
  simp [hxe,Instr.loadAt,Instr.sureAddr,loadVar,Ga ht,hcell]
 cases hl
theorem CL {l:List Oper} {i m d ty:Nat} {L:Array Bool} {Q:St→Prop} {x:Operand} {v:AV} {pos:String} {aft:Array Edge} (ho:l[i]?= some ⟨some d, .move x,ty,pos,aft,none⟩) (hx:AJ s x=some v:=by exact rfl) (hdn:Nat.blt d t=true:=by exact rfl) (hc:(Region.noSelect ⟨l⟩ && Region.free .any ⟨l⟩ L i && (Region.ready .any ⟨l⟩ L).contains i)=true:=by kernel_rfl) (hd:d≠1000000:=by decide)
 (h:HP P l m (L.setIfInBounds i true) ⟨(d,v) :: s,b,n,t,e⟩ Q):HP P l (m+1) L ⟨s,b,n,t,e⟩ Q:= .take ho rfl (Nat.le_of_ble_eq_true hdn) hd rfl hc rfl (IS (OY hx)) h
theorem Ig {l:List Oper} {i m d ty:Nat} {L:Array Bool} {Q:St→Prop} {st:TypeId} {x:Operand} {f off ft:Nat} {v u:AV} {pos:String} {aft:Array Edge} (hf:AX P st f=some (off,ft)) (hz:P.cellsOf ft≠0) (ho:l[i]?= some ⟨some d, .fieldAddr st x f,ty,pos,aft,none⟩) (hx:AJ s x=some v:=by exact rfl) (hu:Gu off v=some u:=by exact rfl) (hdn:Nat.blt d t=true:=by exact rfl) (hc:(Region.noSelect ⟨l⟩ && Region.free .any ⟨l⟩ L i && (Region.ready .any ⟨l⟩ L).contains i)=true:=by kernel_rfl) (hd:d≠1000000:=by decide)
 (h:HP P l m (L.setIfInBounds i true) ⟨(d,u) :: s,b,n,t,e⟩ Q):HP P l (m+1) L ⟨s,b,n,t,e⟩ Q:= .take ho rfl (Nat.le_of_ble_eq_true hdn) hd rfl hc rfl (IS (UE hf hz hx hu)) h
theorem XL {T:Type} {f:T→List AV} {l:List Oper} {i m d ty st el c:Nat} {L:Array Bool} {Q:St→Prop} {x y:Operand} {k:IntKind} {ii:Int} {lst:List T} {qq:T} {pos:String} {aft:Array Edge} (hel:A9 P st=some el) (hcl:P.cellsOf el=c) (hc0:c≠0) (ho:l[i]?= some ⟨some d, .indexAddr st x y,ty,pos,aft,none⟩) (hx:AJ s x=some (.sh c (lst.map f)):=by exact rfl) (hy:AJ s y=some (.lit (.int k ii)):=by exact rfl) (hl:0≤ii∧lst[ii.toNat]?= some qq:=by assumption) (hdn:Nat.blt d t=true:=by exact rfl) (hc:(Region.noSelect ⟨l⟩ && Region.free .any ⟨l⟩ L i && (Region.ready .any ⟨l⟩ L).contains i)=true:=by kernel_rfl) (hd:d≠1000000:=by decide)
 (h:HP P l m (L.setIfInBounds i true) ⟨(d, .sadr (f qq) 0) :: s,b,n,t,e⟩ Q):HP P l (m+1) L ⟨s,b,n,t,e⟩ Q:= .take ho rfl (Nat.le_of_ble_eq_true hdn) hd rfl hc rfl (Wc hel hcl hc0 hx hy hl.1 (by simp only [List.getElem?_map,hl.2,Option.map_some])) h
theorem EZ {l:List Oper} {i m d ty:Nat} {L:Array Bool} {Q:St→Prop} {lt:TypeId} {x:Operand} {row:List AV} {j:Nat} {c:AV} {cs:List AV} {pos:String} {aft:Array Edge} (ha:Bi P lt=some false) (ho:l[i]?= some ⟨some d, .load lt x,ty,pos,aft,none⟩) (hx:AJ s x=some (.sadr row j):=by exact rfl) (hr:row.drop j=c :: cs:=by exact rfl) (hdn:Nat.blt d t=true:=by exact rfl) (hc:(Region.noSelect ⟨l⟩ && Region.free .any ⟨l⟩ L i && (Region.ready .any ⟨l⟩ L).contains i)=true:=by kernel_rfl) (hd:d≠1000000:=by decide)
 (h:HP P l m (L.setIfInBounds i true) ⟨(d,c) :: s,b,n,t,e⟩ Q):HP P l (m+1) L ⟨s,b,n,t,e⟩ Q:= .take ho rfl (Nat.le_of_ble_eq_true hdn) hd rfl hc rfl (Wd hx (by unfold AM.EI;rw [ha];simp only [CM];rw [hr])) h
theorem Cf {U kept:List (Nat × AV)} {O:List (Nat × Obj)} {m:Nat} (rs ks:List Nat) (hO:BG ⟨s,b,n,t,e⟩ (pos rs 0) 0 rs=some O) (hU:Cv (pos rs 0) ⟨s,b,n,t,e⟩ U) (hk:Kept (pos rs 0) s ks kept) (hm:rs.length=m:=by exact rfl)
 (hnd:rs.Nodup:=by decide) (hl:∀ i,i < e→rs[i]?= some i:=by decide):Wk ⟨s,b,n,t,e⟩ ⟨U ++ kept,O,m,t,e⟩:=Wk.ren rs hnd (C3 hU hk.ren) hO hm.symm rfl rfl hl
theorem Wk.nsa {cs cs':List AV} (M:List Nat) (d0:Nat) (hs:Al s d0=some (.agg cs):=by exact rfl) (hc:nshL M cs=cs':=by exact rfl):Wk ⟨s,b,n,t,e⟩ ⟨(d0, .agg cs') :: s,b,n,t,e⟩:=by
 subst hc;intro C E X a hr;refine ⟨E,X,rfl,{ hr with slots:=fun s' v hv=>?_ }⟩;rw [A8] at hv
 split at hv
 ·rename_i e0
  simp only [Option.some.injEq] at hv;subst hv e0;have:=hr.slots _ _ hs;simp only [FV] at this ⊢;obtain ⟨xs,h1,h2⟩:=this;exact ⟨xs,h1,FVc.nshL M cs _ h2⟩
 exact hr.slots s' v hv
end
section
variable {P:Program} {s:List (Nat × AV)} {b:List (Nat × Obj)} {n t e id:Nat} {x y z:Operand} {k:IntKind} {i j l:Int}
theorem SO (ts:Array TypeId) (a b c:Int):OI P ts [.int k a, .int k b, .int k c]=some (.int k (max (max a b) c)):=by
 have h:∀ u v:Int,(if u < v then v else u)=max u v:=fun u v=>by rw [Int.max_def];split <;> split <;> omega
 simp [OI,Builtin.max_,Builtin.max2,Bb,Bj,h]
theorem SP (ts:Array TypeId) (a b c:Int):OJ P ts [.int k a, .int k b, .int k c]=some (.int k (min (min a b) c)):=by
 have h:∀ u v:Int,(if v < u then v else u)=min u v:=fun u v=>by rw [Int.min_def];split <;> split <;> omega
 simp [OJ,Builtin.min_,Builtin.min2,Bb,Bj,h]
theorem Xp {ts:Array TypeId} (hx:AJ s x=some (.lit (.int k i)):=by exact rfl) (hy:AJ s y=some (.lit (.int k j)):=by exact rfl) (hz:AJ s z=some (.lit (.int k l)):=by exact rfl):At P ⟨s,b,n,t,e⟩ id (.call { callee:= .builtin .max,args:= #[x,y,z],argTypes:=ts })=some (.lit (.int k (Max.max (Max.max i j) l)),[]):=by
 simp only [At,Bz,List.map_cons,List.map_nil,AB hx,AB hy,AB hz,toVals,toVal,Option.bind_some,SO,C0,Option.map_some]
theorem Xq {ts:Array TypeId} (hx:AJ s x=some (.lit (.int k i)):=by exact rfl) (hy:AJ s y=some (.lit (.int k j)):=by exact rfl) (hz:AJ s z=some (.lit (.int k l)):=by exact rfl):At P ⟨s,b,n,t,e⟩ id (.call { callee:= .builtin .min,args:= #[x,y,z],argTypes:=ts })=some (.lit (.int k (Min.min (Min.min i j) l)),[]):=by
 simp only [At,Bz,List.map_cons,List.map_nil,AB hx,AB hy,AB hz,toVals,toVal,Option.bind_some,SP,C0,Option.map_some]
end
end Go.AM
