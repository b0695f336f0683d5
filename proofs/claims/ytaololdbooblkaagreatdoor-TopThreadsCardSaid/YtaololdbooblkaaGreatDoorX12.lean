/-
  Part 12 of the proof: the abstract machine, proved sound over the model.
  Conditions: none.
-/
import Derived.RangeFuncFrom
import Derived.Test.YtaololdbooblkaaGreatDoorX11
set_option linter.unusedVariables false
set_option linter.unusedSimpArgs false
set_option linter.unusedSectionVars false
namespace Go.AM
theorem Keep.trans {own:Nat→Prop} {A B C:World} (h:Keep own A B) (k:Keep own B C):Keep own A C :=
 ⟨k.os.trans h.os,h.tape.trans k.tape,k.output.trans h.output,Nat.le_trans h.size k.size,fun b hb hn=>(k.block b (Nat.lt_of_lt_of_le hb h.size) hn).trans (h.block b hb hn)⟩
theorem Keep.mono {own own':Nat→Prop} {A B:World} (h:Keep own A B) (ho:∀ b,own b→own' b):Keep own' A B :=
 ⟨h.os,h.tape,h.output,h.size,fun b hb hn=>h.block b hb fun h'=>hn (ho b h')⟩
theorem Keep.alloc (own:Nat→Prop) (A:World) (o:Go.Obj):Keep own A (A.alloc o) :=
 ⟨rfl,Tp.refl _,rfl,by simp,fun b hb _=>Go.RowKit.Below.heap_alloc A o b hb⟩
theorem Keep.putObj {own:Nat→Prop} (A:World) {l:Nat} (o:Go.Obj) (hl:own l):Keep own A (A.putObj l o) :=
 ⟨rfl,Tp.refl _,rfl,by simp,fun b hb hn=>World.putObj_heap_other fun e=>hn (e ▸ hl)⟩
def GZ (Z:Nat→Prop) (A B:World):Nat→Prop:=fun b=>Z b∨(A.heap.size≤b∧b < B.heap.size)
def YL {α:Type} (P:Program) (gf:Nat) (lb:Array Value) (encs:α→Array Value) (S Sp:List α→Prop) (N:List α→α→Prop) (Z0 S0:Nat→Prop) (w0:World):Prop :=
 ∀ (l:Nat) (J Jx:List α→(Nat→Prop)→World→Prop) (W:World),Keep (fun b=>¬ (Z0 b∨S0 b)) w0 W →
  (∀ pre Z A B,J pre Z A→Keep Z A B→J pre (GZ Z A B) B)→(∀ pre Z A B,Jx pre Z A→Keep Z A B→Jx pre (GZ Z A B) B) →
  (∀ pre Z x A,J pre Z A→N pre x→YieldAt Fence.wide 0 P l (encs x) A fun e B=>Keep (fun b=>¬ (Z b∨S0 b)) A B∧((e= .returned (.bool true)∧J (pre ++ [x]) Z B)∨(e= .returned (.bool false)∧Jx (pre ++ [x]) Z B))) →
  J [] Z0 W →
  Calls P gf (#[.func (.yield l) #[] #[]] ++ lb) W fun e B=>(∃ v,e= .returned v)∧((∃ xs Z,S xs∧J xs Z B)∨(∃ pre Z,Sp pre∧Jx pre Z B))
def Vy {α:Type} (S0:Nat→Prop) (I:List α→(Nat→Prop)→World→Prop) (Ix:Code→List α→(Nat→Prop)→World→Prop) (xs:List α) (Z:Nat→Prop) (W:World):Exit→Act→World→Prop
 |.normal,_,W'=>Keep (fun b=>¬ (Z b∨S0 b)) W W'∧I xs Z W'
 |.ret,_,W'=>Keep (fun b=>¬ (Z b∨S0 b)) W W'∧Ix .ret xs Z W'
 |.exit id,_,W'=>Keep (fun b=>¬ (Z b∨S0 b)) W W'∧Ix (.exit id) xs Z W'
 |.goto t,_,W'=>Keep (fun b=>¬ (Z b∨S0 b)) W W'∧Ix (.goto t) xs Z W'
 |.panic _,_,_=>False
 |.outgrown,_,_=>False
theorem Rel.other {C:Ctx} {E:Env} {X:Nat→List Value} {σ:St} {a:Act} (h:Rel C E X σ a) {B:World} {Z:Nat→Prop} (hk:Keep Z E.w B)
 (hZ:∀ b,Z b→C.w0.heap.size≤b∧¬ E.S b∧∀ r o,Al σ.objs r=some o→blockOf (E.H r)≠some b):Rel C { E with w:=B } X σ a:=by
 have hS:∀ b,E.S b→B.heap[b]?= E.w.heap[b]?:=fun b hb=>hk.block b (h.stay b hb).1 fun hz=>(hZ b hz).2.1 hb;have hle:E.le { E with w:=B }:=⟨fun b hbS=>⟨hbS,hS b hbS⟩,fun r hr=>⟨hr,rfl,rfl⟩⟩
 exact ⟨fun s v hv=>FV.le _ hle _ (h.slots s v hv),h.size,h.defers,fun r o hr=>⟨(h.objs r o hr).1,(h.objs r o hr).2.1,(h.objs r o hr).2.2.1.kept (fun b hbk=>hk.block b ((h.objs r o hr).2.2.1.lt hbk) fun hz=>(hZ b hz).2.2 r o hr hbk),FVr.le _ _ (hle.by _) _ (h.objs r o hr).2.2.2⟩,h.apart,
  fun b hbS=>⟨Nat.lt_of_lt_of_le (h.stay b hbS).1 hk.size,(h.stay b hbS).2⟩,h.fresh,
  ⟨hk.os.trans h.kept.os,h.kept.tape.trans hk.tape,hk.output.trans h.kept.output,Nat.le_trans h.kept.size hk.size,fun b hbl hno=>(hk.block b (Nat.lt_of_lt_of_le hbl h.kept.size) fun hz=>by have:=(hZ b hz).1;omega).trans (h.kept.block b hbl hno)⟩,h.mine,h.env,h.envD,h.base,h.grow,h.envk,h.glob.le hle⟩
structure Mark (C:Ctx) (E:Env) (σ:St) (D:Nat):Prop where
 new:C.w0.heap.size≤D
 fr:¬ E.S D
 ob:∀ r o,Al σ.objs r=some o→blockOf (E.H r)≠some D
 at_:E.w.heap[D]?= some (.deferred (some []))
structure TopC (C:Ctx):Prop where
 dfr:C.dfr=[]
 own:∀ b,¬ C.own b
structure Rnd {α:Type} (P:Program) (l:Nat) (encs:α→Array Value) (N:List α→α→Prop) (S0:Nat→Prop) (J:Bool × List α→(Nat→Prop)→World→Prop):Prop where
 step:∀ g Z A B,J g Z A→Keep Z A B→J g (GZ Z A B) B
 round:∀ pre Z x A,J (true,pre) Z A→N pre x→YieldAt Fence.wide 0 P l (encs x) A fun e B=>Keep (fun b=>¬ (Z b∨S0 b)) A B∧((e= .returned (.bool true)∧J (true,pre ++ [x]) Z B)∨(e= .returned (.bool false)∧J (false,pre ++ [x]) Z B))
structure InY {ι:Type} (S0:Nat→Prop) (J:ι→(Nat→Prop)→World→Prop) (C:Ctx) (g:ι) (Z:Nat→Prop):Prop where
 dfr:C.dfr=[]
 own:∀ b,C.own b→Z b
 S0:∀ b,C.S0 b→Z b∨S0 b
 j:J g Z C.w0
def EvY {ι:Type} (P:Program) (S0:Nat→Prop) (J:ι→(Nat→Prop)→World→Prop) (c:Code) (σ:St) (g:ι) (Q:Exit→St→ι→Prop):Prop :=
 ∀ C E X a Z,InY S0 J C g Z→Rel C E X σ a→c.wp P (fun e a' w'=>∃ C' E' X' σ' g' Z',E'.w=w'∧InY S0 J C' g' Z'∧Rel C' E' X' σ' a'∧Q e σ' g') a E.w
def RU {ι:Type} (K:St→ι→Prop) (Q:Exit→St→ι→Prop):Exit→St→ι→Prop
 |.normal,σ,g=>K σ g
 |e,σ,g=>Q e σ g
section
variable {ι:Type} {P:Program} {S0:Nat→Prop} {J:ι→(Nat→Prop)→World→Prop} {σ:St} {g:ι} {Q:Exit→St→ι→Prop}
theorem EvY.plain {c:Code} (h:Ev P c σ fun e σ'=>Q e σ' g):EvY P S0 J c σ g Q:=by
 intro C E X a Z hi hr;refine wp_mono (h C E X a hr) ?_;rintro e a' w' ⟨E',X',σ',h1,h2,h3⟩;exact ⟨C,E',X',σ',g,Z,h1,hi,h2,h3⟩
theorem Q9 {c:Code} {σ':St} (hw:Wk σ σ') (h:EvY P S0 J c σ' g Q):EvY P S0 J c σ g Q:=by
 intro C E X a Z hi hr;obtain ⟨E',X',e,hr'⟩:=hw C E X a hr;rw [← e];exact h C E' X' a Z hi hr'
theorem DK {x y:Code} (h:EvY P S0 J x σ g (RU (fun σ' g'=>EvY P S0 J y σ' g' Q) Q)):EvY P S0 J (.seq x y) σ g Q:=by
 intro C E X a Z hi hr;refine wp_seq (wp_mono (h C E X a Z hi hr) ?_);rintro e a' w' ⟨C',E',X',σ',g',Z',rfl,h2,h3,h4⟩
 cases e <;> simp only [Exit.then,RU] at h4 ⊢
 case normal=>exact h4 C' E' X' a' Z' h2 h3
 all_goals exact ⟨C',E',X',σ',g',Z',rfl,h2,h3,h4⟩
theorem TO {x y:Code} (h:Ev P x σ (GF (fun σ'=>EvY P S0 J y σ' g Q) fun e σ'=>Q e σ' g)):EvY P S0 J (.seq x y) σ g Q :=
 DK (EvY.plain (h.mono fun e σ' hq=>by cases e <;> exact hq))
theorem KP {c:Operand} {x y:Code} {b:Bool} (hc:σ.ev c= .lit (.bool b)) (ht:b=true→EvY P S0 J x σ g Q) (hf:b=false→EvY P S0 J y σ g Q):EvY P S0 J (.cond c x y) σ g Q:=by
 intro C E X a Z hi hr;have hv:=hr.ev c;rw [hc] at hv;simp only [FV] at hv;exact wp_cond_split hv (fun e=>ht e C E X a Z hi hr) (fun e=>hf e C E X a Z hi hr)
def O5 (id:Nat) (Q:Exit→St→ι→Prop):Exit→St→ι→Prop
 |.exit id',σ,g=>if id'=id then Q .normal σ g else Q (.exit id') σ g
 |e,σ,g=>Q e σ g
theorem EvY.block {id:Nat} {c:Code} (h:EvY P S0 J c σ g (O5 id Q)):EvY P S0 J (.block id c) σ g Q:=by
 intro C E X a Z hi hr;refine wp_block (wp_mono (h C E X a Z hi hr) ?_);rintro e a' w' ⟨C',E',X',σ',g',Z',rfl,h2,h3,h4⟩
 cases e <;> simp only [Exit.inBlock,O5] at h4 ⊢
 case exit id' =>
  split
  ·rename_i e
   simp only [e,if_true] at h4;exact ⟨C',E',X',σ',g',Z',rfl,h2,h3,h4⟩
  rename_i e
  simp only [e,if_false] at h4;exact ⟨C',E',X',σ',g',Z',rfl,h2,h3,h4⟩
 all_goals exact ⟨C',E',X',σ',g',Z',rfl,h2,h3,h4⟩
def LY {κ:Type} (I:κ→St) (G:κ→ι) (μ:κ→Nat) (x:κ) (Q:Exit→St→ι→Prop):Exit→St→ι→Prop
 |.normal,σ',g'=>∃ y,μ y < μ x∧Wk σ' (I y)∧g'=G y
 |e,σ',g'=>Q e σ' g'
theorem TN {c:Code} {κ:Type} (I:κ→St) (G:κ→ι) (μ:κ→Nat) (x0:κ) (hg:g=G x0) (h0:Wk σ (I x0)) (round:∀ x,EvY P S0 J c (I x) (G x) (LY I G μ x Q)):EvY P S0 J (.loop c) σ g Q:=by
 intro C E X a Z hi hr
 have key:∀ n x C E X a Z,μ x < n→InY S0 J C (G x) Z→Rel C E X (I x) a →
  Code.rounds P c (fun e a' w'=>∃ C' E' X' σ' g' Z',E'.w=w'∧InY S0 J C' g' Z'∧Rel C' E' X' σ' a'∧Q e σ' g') n a E.w:=by
  intro n
  induction n with
  |zero=>intro x C E X a Z h;omega
  |succ n ih =>
   intro x C E X a Z h hi hr;rw [rounds_succ];refine wp_mono (round x C E X a Z hi hr) ?_;rintro e a' w' ⟨C',E',X',σ',g',Z',rfl,h2,h3,h4⟩
   cases e <;> simp only [Exit.then,LY] at h4 ⊢
   case normal =>
    obtain ⟨y,hy,hw,rfl⟩:=h4;obtain ⟨E'',X'',e,hr'⟩:=hw C' E' X' a' h3;rw [← e];exact ih y C' E'' X'' a' Z' (by omega) h2 hr'
   all_goals exact ⟨C',E',X',σ',g',Z',rfl,h2,h3,h4⟩
 obtain ⟨E',X',e,hr'⟩:=h0 C E X a hr;have:=key (μ x0+1) x0 C E' X' a Z (by omega) (hg ▸ hi) hr';rw [← e];exact wp_loop_rounds _ this
end
def SeqR {α:Type} (P:Program) (gf:Nat) (caps:List AV) (objs:List (Nat × Obj)) (k:Nat) (encs:α→Array Value) (S Sp:List α→Prop) (N:List α→α→Prop):Prop :=
 EG P gf∧∀ (E:Env) (X:Nat→List Value) (lb:List Value),Entry E X objs k→FVs E caps lb→YL P gf lb.toArray encs S Sp N (El E objs) E.S E.w
theorem SeqR.of_body {α:Type} {P:Program} {gf:FuncId} {fn:Func} {c:Code} {caps:List AV} {objs:List (Nat × Obj)} {k:Nat} {N:List α→α→Prop} {encs:α→Array Value} {S Sp:List α→Prop}
 (hf:P.funcs[gf]?= some fn) (hb:fn.body=some c) (hnm:(fn.name == "runtime.NumGoroutine")=false) (hrs:fn.results= #[]) (hn:caps.length+1≤fn.ntmps)
 (h:∀ l S0 (J:Bool × List α→(Nat→Prop)→World→Prop),Rnd P l encs N S0 J→EvY P S0 J c ⟨argSlots 0 (.lit (.func (.yield l) #[] #[]) :: caps),objs,k,fn.ntmps,k⟩ (true,[]) (fun e σ' g'=>(e= .normal∨e= .ret)∧(g'.1=true→S g'.2)∧(g'.1=false→Sp g'.2))) :
 SeqR P gf caps objs k encs S Sp N:=by
 refine ⟨⟨fn,hf,by simp [hb],hnm⟩,fun E X lb hE hx=>?_⟩;intro l J Jx W hW hJ hJx hround hJ0
 obtain ⟨J',hJ'⟩:∃ J':Bool × List α→(Nat→Prop)→World→Prop,J'=fun g=>match g.1 with | true=>J g.2 | false=>Jx g.2:=⟨_,rfl⟩
 have hR:Rnd P l encs N E.S J':=by
  subst hJ';refine ⟨fun g Z A B h1 h2=>?_,fun pre Z x A h1 h2=>?_⟩
  ·rcases g with ⟨b,pre⟩
   cases b
   ·exact hJx pre Z A B h1 h2
   exact hJ pre Z A B h1 h2
  exact hround pre Z x A h1 h2
 have hxl:=hx.length;have hle:E.le { E with w:=W }:=⟨fun b hb=>⟨hb,hW.block b (hE.stay b hb).1 fun h=>h (.inr hb)⟩,fun r hr=>⟨hr,rfl,rfl⟩⟩;have hown:∀ r o b,Al objs r=some o→blockOf (E.H r)=some b→W.heap[b]?= E.w.heap[b]?:=fun r o b h1 h2=>hW.block b ((hE.objs r o h1).2.2.1.lt h2) fun h=>h (.inl ⟨r,o,h1,h2⟩)
 have hrel:Rel (Fy { E with w:=W } objs k) { E with w:=W } X ⟨argSlots 0 (.lit (.func (.yield l) #[] #[]) :: caps),objs,k,fn.ntmps,k⟩ { tmps:=(#[Value.func (Fn.yield l) #[] #[]] ++ lb.toArray) ++ Array.replicate (fn.ntmps - (#[Value.func (Fn.yield l) #[] #[]] ++ lb.toArray).size) undef,defers:=[] }:=by
  have hxx:FVs { E with w:=W } (.lit (.func (.yield l) #[] #[]) :: caps) (Value.func (Fn.yield l) #[] #[] :: lb):=⟨_,_,rfl,by simp [FV],FVs.le _ hle _ hx⟩;refine ⟨?_,?_,rfl,?_,hE.apart,?_,?_,Keep.refl _ _,?_,?_,?_,fun b hb=>hb,fun b hb=> .inl hb,rfl,hE.glob.le hle⟩
  ·intro s v hv;obtain ⟨_,h2⟩:=find_argSlots _ 0 s v hv;simp only [Nat.sub_zero] at h2;obtain ⟨y,hy,hfv⟩:=hxx.get h2
   have e0:(#[Value.func (Fn.yield l) #[] #[]] ++ lb.toArray:Array Value)=(Value.func (Fn.yield l) #[] #[] :: lb).toArray:=by simp
   rw [e0]
   generalize (Value.func (Fn.yield l) #[] #[] :: lb)=xs at hy ⊢
   have hlt:s < xs.length:=(List.getElem?_eq_some_iff.1 hy).1
   have:(xs.toArray ++ Array.replicate (fn.ntmps - xs.toArray.size) undef).getD s undef=y:=by
    have e:(xs.toArray ++ Array.replicate (fn.ntmps - xs.toArray.size) undef)[s]?= some y:=by
     rw [Array.getElem?_append_left (by simpa using hlt)]
     simpa using hy
    rw [Array.getD_eq_getD_getElem?,e];rfl
   rw [this];exact hfv
  ·simp [hxl];omega
  ·intro r o hr;obtain ⟨h1,h2,h3,h4⟩:=hE.objs r o hr;exact ⟨(hE.dom r).2 h1,h2,h3.kept fun b hb=>hown r o b hr hb,FVr.le _ _ (hle.by _) _ h4⟩
  ·intro b hb;exact ⟨Nat.lt_of_lt_of_le (hE.stay b hb).1 hW.size,(hE.stay b hb).2⟩
  ·intro r hr;exact (hE.dom r).1 hr
  ·intro r o b hr hb;exact .inl ⟨r,o,hr,hb⟩
  ·intro r hr;exact ⟨rfl,rfl⟩
  intro r hr;exact (hE.dom r).2 hr
 have hin:InY E.S J' (Fy { E with w:=W } objs k) (true,[]) (El E objs):=⟨rfl,fun b hb=>hb,fun b hb=> .inr hb,by subst hJ';exact hJ0⟩;refine calls_of_wp hf hb (wp_mono (h l E.S J' hR _ _ X _ _ hin hrel) ?_);rintro e a' w' ⟨C',E',X',σ',g',Z',rfl,h2,h3,h4,h5,h6⟩;have hd:a'.defers=[]:=h3.defers.trans h2.dfr
 have hres:∃ y,(results fn a'.tmps).run P E'.w= .ok y E'.w:=by
  refine ⟨.tuple #[],?_⟩
  unfold results
  simp [hrs]
 have hj:=hR.step _ _ _ _ h2.j (h3.kept.mono h2.own)
 have fin:(∃ v,Ending.returned (.tuple #[])= .returned v)∧((∃ xs Z,S xs∧J xs Z E'.w)∨(∃ pre Z,Sp pre∧Jx pre Z E'.w)):=by
  refine ⟨⟨_,rfl⟩,?_⟩;subst hJ'
  rcases g' with ⟨b,pre⟩
  cases b
  ·exact .inr ⟨pre,_,h6 rfl,hj⟩
  exact .inl ⟨pre,_,h5 rfl,hj⟩
 have hr2:(results fn a'.tmps).run P E'.w= .ok (.tuple #[]) E'.w:=by
  unfold results
  simp [hrs]
 rcases h4 with rfl | rfl
 ·exact ⟨hd,_,hr2,fin⟩
 exact ⟨hd,_,hr2,fin⟩
def stays (K:Nat) (s0:List (Nat × AV)):Prop:=∀ k v,Al s0 k=some v→BX (fun r=>if r < K then some r else none) v=some v
theorem stays.nil (K:Nat):stays K []:=fun k v h=>by simp [Al] at h
theorem stays.c {K k:Nat} {v:AV} {s:List (Nat × AV)} (h:stays K s) (hv:BX (fun r=>if r < K then some r else none) v=some v):stays K ((k,v) :: s):=fun k' v' hf=>by
 rw [A8] at hf
 split at hf
 ·cases hf;exact hv
 ·exact h k' v' hf
structure RI (C:Ctx) (s0:List (Nat × AV)) (o:List (Nat × Obj)) (n nt:Nat) (S0:Nat→Prop) (a:Act) (Z:Nat→Prop) (E:Env) (X:Nat→List Value):Prop where
 rel:Rel C E X ⟨s0,o,n,nt,0⟩ a
 S0:∀ b,S0 b→E.S b
 lt:∀ b,Z b→b < E.w.heap.size
 new:∀ b,Z b→C.w0.heap.size≤b
 fr:∀ b,Z b→¬ E.S b
 ob:∀ b,Z b→∀ r p,Al o r=some p→blockOf (E.H r)≠some b
section
variable {C:Ctx} {s0:List (Nat × AV)} {o:List (Nat × Obj)} {n nt:Nat} {S0:Nat→Prop} {a:Act} {Z:Nat→Prop} {E:Env} {X:Nat→List Value}
theorem RI.step (h:RI C s0 o n nt S0 a Z E X) {B:World} (hk:Keep Z E.w B):RI C s0 o n nt S0 a (GZ Z E.w B) { E with w:=B } X:=by
 have hsz:=h.rel.kept.size;refine ⟨h.rel.other hk fun b hb=>⟨h.new b hb,h.fr b hb,h.ob b hb⟩,h.S0,fun b hb=>?_,fun b hb=>?_,fun b hb=>?_,fun b hb r p hr=>?_⟩
 ·rcases hb with hb | hb
  ·exact Nat.lt_of_lt_of_le (h.lt b hb) hk.size
  exact hb.2
 ·rcases hb with hb | hb
  ·exact h.new b hb
  exact Nat.le_trans hsz hb.1
 ·rcases hb with hb | hb
  ·exact h.fr b hb
  intro hs;have:=(h.rel.stay b hs).1;omega
 rcases hb with hb | hb
 ·exact h.ob b hb r p hr
 intro e;have:=(h.rel.objs r p hr).2.2.1.lt e;omega
theorem RI.mono (h:RI C s0 o n nt S0 a Z E X) {Z':Nat→Prop} (hz:∀ b,Z' b→Z b):RI C s0 o n nt S0 a Z' E X :=
 ⟨h.rel,h.S0,fun b hb=>h.lt b (hz b hb),fun b hb=>h.new b (hz b hb),fun b hb=>h.fr b (hz b hb),fun b hb=>h.ob b (hz b hb)⟩
def I7 (E:Env) (o:List (Nat × Obj)) (K:Nat):Ctx:=Fy E o K
theorem RI.enter (h:RI C s0 o n nt S0 a Z E X) {K p d:Nat} (hK:∀ r,r < K→∃ q,Al o r=some q) (v:Value) (hp:p < nt) (hd:d < nt) :
 Rel (I7 E o K) E X ⟨(d, .lit v) :: (p, .lit v) :: s0,o,n,nt,K⟩ { tmps:=(a.tmps.setIfInBounds p v).setIfInBounds d v,defers:=[] }:=by
 have hr:=h.rel
 have h0:Rel (I7 E o K) E X ⟨s0,o,n,nt,K⟩ { tmps:=a.tmps,defers:=[] } :=
  ⟨hr.slots,hr.size,rfl,hr.objs,hr.apart,hr.stay,hr.fresh,Keep.refl _ _,fun r q b h1 h2=> .inl ⟨r,q,h1,h2⟩,fun r _=>⟨rfl,rfl⟩,fun r hk=>by
    obtain ⟨q,hq⟩:=hK r hk
    exact (hr.objs r q hq).1,fun b hb=>hb,fun b hb=> .inl hb,rfl,hr.glob⟩
 have h1:=h0.put (some p) (fun d' e=>by cases e;exact hp) (v:= .lit v) (y:=v) (by simp [FV]);exact h1.put (some d) (fun d' e=>by cases e;exact hd) (v:= .lit v) (y:=v) (by simp [FV])
theorem RI.leave (h:RI C s0 o n nt S0 a Z E X) {K:Nat} (hs:stays K s0) {E':Env} {X':Nat→List Value} {o':List (Nat × Obj)} {n':Nat} {a':Act} (hn:n'≤n)
 (h':Rel (I7 E o K) E' X' ⟨[],o',n',nt,K⟩ a'):RI C s0 o' n nt S0 a Z E' X'∧Keep (fun b=>¬ (Z b∨S0 b)) E.w E'.w:=by
 have hr:=h.rel;have hsz:=hr.kept.size;have hown:∀ b,El E o b→C.own b∨C.w0.heap.size≤b:=fun b ⟨r,q,h1,h2⟩=>hr.mine r q b h1 h2;have hoZ:∀ b,El E o b→¬ Z b:=fun b ⟨r,q,h1,h2⟩ hz=>h.ob b hz r q h1 h2;have hoS:∀ b,El E o b→¬ E.S b:=fun b ⟨r,q,h1,h2⟩ hz=>(hr.stay b hz).2 r q h1 h2;have hCk:C.k=0:=hr.envk
 have hren:E.ren (fun r=>if r < K then some r else none) E':=by
  refine ⟨fun b hb=>⟨h'.base b hb,h'.kept.block b (hr.stay b hb).1 fun ho=>hoS b ho hb⟩,fun r r' hD hp=>?_⟩
  split at hp
  ·rename_i hlt
   cases hp
   exact ⟨h'.envD r hlt,(h'.env r hlt).1,(h'.env r hlt).2⟩
  cases hp
 refine ⟨⟨⟨fun k v hv=>FV.ren hren (hs k v hv) (hr.slots k v hv),hr.size,hr.defers,h'.objs,h'.apart,h'.stay,fun r hD=>Nat.lt_of_lt_of_le (h'.fresh r hD) hn,
  ⟨h'.kept.os.trans hr.kept.os,hr.kept.tape.trans h'.kept.tape,h'.kept.output.trans hr.kept.output,Nat.le_trans hsz h'.kept.size,fun b hb hno=>?_⟩,fun r q b h1 h2=>?_,fun r hk=>?_,fun r hk=>?_,fun b hb=>h'.base b (hr.base b hb),fun b hb=>?_,hCk,h'.glob⟩,
  fun b hb=>h'.base b (h.S0 b hb),fun b hb=>Nat.lt_of_lt_of_le (h.lt b hb) h'.kept.size,h.new,fun b hb hS=>?_,fun b hb r q h1 h2=>?_⟩,h'.kept.mono fun b hb hz=>?_⟩
 ·refine (h'.kept.block b (Nat.lt_of_lt_of_le hb hsz) fun ho=>?_).trans (hr.kept.block b hb hno)
  rcases hown b ho with h1 | h1
  ·exact hno h1
  omega
 ·rcases h'.mine r q b h1 h2 with h3 | h3
  ·exact hown b h3
  exact .inr (Nat.le_trans hsz h3)
 ·rw [hCk] at hk;exact absurd hk (Nat.not_lt_zero _)
 ·rw [hCk] at hk;exact absurd hk (Nat.not_lt_zero _)
 ·rcases h'.grow b hb with h3 | h3 | h3
  ·exact hr.grow b h3
  ·exact .inr (.inl (Nat.le_trans hsz h3))
  rcases hown b h3 with h4 | h4
  ·exact .inr (.inr h4)
  exact .inr (.inl h4)
 ·rcases h'.grow b hS with h3 | h3 | h3
  ·exact h.fr b hb h3
  ·have h4:E.w.heap.size≤b:=h3;have:=h.lt b hb;omega
  exact hoZ b h3 hb
 ·rcases h'.mine r q b h1 h2 with h3 | h3
  ·exact hoZ b h3 hb
  have h4:E.w.heap.size≤b:=h3;have:=h.lt b hb;omega
 rcases hz with hz | hz
 ·exact hoZ b hb hz
 exact hoS b hb (h.S0 b hz)
theorem RI.after {P:Program} {c2:Code} {Q:Exit→St→Prop} (h:RI C s0 o n nt S0 a Z E X) (hC:TopC C) {D:Nat} (hD:Z D) (hat:E.w.heap[D]?= some (.deferred (some []))) (h2:Ev P c2 ⟨s0,o,n,nt,0⟩ Q) :
 c2.wp P (fun e a' w'=>∃ E' X' σ',E'.w=w'∧Rel C E' X' σ' { a' with defers:=[] }∧(a'.defers=[]∨∃ D,a'.defers=[{ target:= .collected D,args:= #[] }]∧Mark C E' σ' D)∧Q e σ') { a with defers:={ target:= .collected D,args:= #[] } :: a.defers } E.w:=by
 have hr:=h.rel;have had:a.defers=[]:=hr.defers.trans hC.dfr;have hb:=hr.rebase
 have hr2:Rel { C.at E ⟨s0,o,n,nt,0⟩ with dfr:=[{ target:= .collected D,args:= #[] }] } E X ⟨s0,o,n,nt,0⟩ { a with defers:={ target:= .collected D,args:= #[] } :: a.defers } :=
  ⟨hb.slots,hb.size,by simp [had],hb.objs,hb.apart,hb.stay,hb.fresh,hb.kept,hb.mine,hb.env,hb.envD,hb.base,hb.grow,hb.envk,hb.glob⟩
 refine wp_mono (h2 _ E X _ hr2) ?_;rintro e a' w' ⟨E',X',σ',rfl,h3,h4⟩
 have h5:Rel (C.at E ⟨s0,o,n,nt,0⟩) E' X' σ' { a' with defers:=[] } :=
  ⟨h3.slots,h3.size,hC.dfr.symm,h3.objs,h3.apart,h3.stay,h3.fresh,h3.kept,h3.mine,h3.env,h3.envD,h3.base,h3.grow,h3.envk,h3.glob⟩
 have hDo:¬ (∃ r q,Al o r=some q∧blockOf (E.H r)=some D):=fun ⟨r,q,h1,h2⟩=>h.ob D hD r q h1 h2;have hlt:=h.lt D hD;refine ⟨E',X',σ',rfl,hr.unbase h5, .inr ⟨D,h3.defers,h.new D hD,fun hS=>?_,fun r q h1 h2=>?_,(h3.kept.block D hlt hDo).trans hat⟩,h4⟩
 ·rcases h3.grow D hS with h6 | h6 | h6
  ·exact h.fr D hD h6
  ·have h7:E.w.heap.size≤D:=h6;omega
  exact hDo h6
 rcases h3.mine r q D h1 h2 with h6 | h6
 ·exact hDo h6
 have h7:E.w.heap.size≤D:=h6;omega
end
theorem Wk.renR (ks:List Nat) {σ σ':St} (hnd:ks.Nodup) (hs:Cv (pos ks 0) σ σ'.slots) (ho:Cu σ (pos ks 0) σ.env 0 ks=some σ'.objs) (hn:σ'.next=ks.length) (ht:σ'.nt=σ.nt) (he:σ'.env=σ.env)
 (hk:∀ i,i < σ.env→ks[i]?= some i):Wk σ σ':=by
 intro C E X a hr
 let E'':Env:={ w:=E.w,H:=fun r'=>match ks[r']? with | some k=>E.H k | none=>undef,Z:=fun r'=>match ks[r']? with | some k=>E.Z k | none=>0,D:=fun r'=>∃ k,ks[r']?= some k∧E.D k,S:=E.S }
 have hren:E.ren (pos ks 0) E'':=by
  refine ⟨fun b hb=>⟨hb,rfl⟩,fun r r' hD hp=>?_⟩;obtain ⟨_,h2⟩:=pos_spec ks 0 r r' hp;simp only [Nat.sub_zero] at h2;exact ⟨⟨r,h2,hD⟩,by simp [E'',h2],by simp [E'',h2]⟩
 refine ⟨E'',fun r'=>match ks[r']? with | some k=>X k | none=>[],rfl,⟨?_,hr.size.trans ht.symm,hr.defers,?_,?_,?_,?_,hr.kept,?_,?_,?_,hr.base,hr.grow,hr.envk.trans he.symm,hr.glob⟩⟩
 ·intro s v hv;exact FV.ren hren (FO hs s v hv) (hr.ev (.tmp s))
 ·intro r o hro;obtain ⟨k,o1,_,hkk,hk2,hk3⟩:=CT ks 0 _ ho r o hro;simp only [Nat.sub_zero] at hkk;obtain ⟨g1,g2,g3,g4⟩:=hr.objs k o1 hk2;have hsp:=CS hk3;refine ⟨⟨k,hkk,g1⟩,by simp [E'',hkk,g2,hsp.2.2.1],?_,?_⟩
  ·simp only [E'',hkk];exact g3.ren hk3
  simp only [hkk];exact FVr.renObj hk3 hren g4
 ·intro r r' o o' b hro hro' hb hb';obtain ⟨k,o1,_,hkk,hk2,hk3⟩:=CT ks 0 _ ho r o hro;obtain ⟨k',o1',_,hkk',hk2',hk3'⟩:=CT ks 0 _ ho r' o' hro';simp only [Nat.sub_zero] at hkk hkk';simp only [E'',hkk] at hb;simp only [E'',hkk'] at hb';have:=hr.apart k k' o1 o1' b hk2 hk2' hb hb';subst this;obtain ⟨hl,he⟩:=List.getElem?_eq_some_iff.1 hkk;obtain ⟨hl',he'⟩:=List.getElem?_eq_some_iff.1 hkk';exact (List.getElem_inj hnd).1 (he.trans he'.symm)
 ·intro b hb;obtain ⟨h1,h2⟩:=hr.stay b hb;refine ⟨h1,fun r o hro e=>?_⟩;obtain ⟨k,o1,_,hkk,hk2,hk3⟩:=CT ks 0 _ ho r o hro;simp only [Nat.sub_zero] at hkk;simp only [E'',hkk] at e;exact h2 k o1 hk2 e
 ·rintro r ⟨k,hkk,_⟩;rw [hn];exact (List.getElem?_eq_some_iff.1 hkk).1
 ·intro r o b hro hb;obtain ⟨k,o1,_,hkk,hk2,hk3⟩:=CT ks 0 _ ho r o hro;simp only [Nat.sub_zero] at hkk;simp only [E'',hkk] at hb;exact hr.mine k o1 b hk2 hb
 ·intro r hkr;have:=hk r (by rw [← hr.envk];exact hkr);simp only [E'',this];exact hr.env r hkr
 intro r hkr;exact ⟨r,hk r (by rw [← hr.envk];exact hkr),hr.envD r hkr⟩
section control
variable {P:Program} {s:List (Nat × AV)} {b:List (Nat × Obj)} {n t e:Nat} {Q:Exit→St→Prop}
theorem TI {c:Code} {ι:Type} (rs:List Nat) (ks:List Nat) {kept:List (Nat × AV)} (U:ι→List (Nat × AV)) (O:ι→List (Nat × Obj)) (μ:ι→Nat) (x0:ι) (hk:Kept (pos rs 0) s ks kept) (hO:Cu ⟨s,b,n,t,e⟩ (pos rs 0) e 0 rs=some (O x0)) (hU:Cv (pos rs 0) ⟨s,b,n,t,e⟩ (U x0))
 (round:∀ x (R:Exit→St→Prop),(∀ e' σ',FH (fun x=>⟨U x ++ kept,O x,rs.length,t,e⟩) μ x Q e' σ'→R e' σ')→Ev P c ⟨U x ++ kept,O x,rs.length,t,e⟩ R) (hnd:rs.Nodup:=by decide) (hl:∀ i,i < e→rs[i]?= some i:=by decide):Ev P (.loop c) ⟨s,b,n,t,e⟩ Q :=
 Ml (fun x=>⟨U x ++ kept,O x,rs.length,t,e⟩) μ x0 (Wk.renR rs hnd (C3 hU hk.ren) hO rfl rfl rfl hl) fun x=>round x _ fun _ _ h=>h
theorem Xv {ι:Type} {U:ι→List (Nat × AV)} {kept:List (Nat × AV)} {O:ι→List (Nat × Obj)} {μ:ι→Nat} {x:ι} (rs ks:List Nat) {m:Nat} (y:ι) (hμ:μ y < μ x) (hO:Cu ⟨s,b,n,t,e⟩ (pos rs 0) e 0 rs=some (O y)) (hU:Cv (pos rs 0) ⟨s,b,n,t,e⟩ (U y)) (hk:Kept (pos rs 0) s ks kept) (hm:rs.length=m:=by exact rfl)
 (hnd:rs.Nodup:=by decide) (hl:∀ i,i < e→rs[i]?= some i:=by decide):FH (fun x=>⟨U x ++ kept,O x,m,t,e⟩) μ x Q .normal ⟨s,b,n,t,e⟩ :=
 ⟨y,hμ,Wk.renR rs hnd (C3 hU hk.ren) hO hm.symm rfl rfl hl⟩
theorem Xh {σ:St} {ρ:Nat→Option Nat} {k i:Nat}:Cu σ ρ k i []=some []:=rfl
theorem Xf {σ:St} {ρ:Nat→Option Nat} {k i j:Nat} {ks:List Nat} {slc:Bool} {el sz:Nat} {rows rows':List (List AV)} {l:List (Nat × Obj)} (ho:Al σ.objs j=some ⟨slc,el,sz,rows,true⟩:=by exact rfl) (he:rows=rows') (h:Cu σ ρ k (i+1) ks=some l) :
 Cu σ ρ k i (j :: ks)=some ((i,⟨slc,el,sz,rows',true⟩) :: l):=by
 subst he;simp only [Cu,ho,Cz,h]
theorem Xg {σ:St} {ρ:Nat→Option Nat} {k i j:Nat} {ks:List Nat} {l:List (Nat × Obj)} (ho:Al σ.objs j=none:=by exact rfl) (hi:Nat.blt i k=true:=by exact rfl) (h:Cu σ ρ k (i+1) ks=some l) :
 Cu σ ρ k i (j :: ks)=some l:=by
 simp only [Cu,ho,hi,cond_true,h]
end control
theorem H9 {ι:Type} {P:Program} {S0:Nat→Prop} {J:ι→(Nat→Prop)→World→Prop} {σ:St} {g:ι} {Q:Exit→St→ι→Prop} (h:Q .normal σ g):EvY P S0 J .skip σ g Q:=EvY.plain (Am h)
theorem Jb {ι:Type} {P:Program} {S0:Nat→Prop} {J:ι→(Nat→Prop)→World→Prop} {σ:St} {g:ι} {Q:Exit→St→ι→Prop} {id:Nat} (h:Q (.exit id) σ g):EvY P S0 J (.exit id) σ g Q:=EvY.plain (AA h)
theorem Qg {ι:Type} {P:Program} {S0:Nat→Prop} {J:ι→(Nat→Prop)→World→Prop} {σ:St} {g:ι} {Q:Exit→St→ι→Prop} (h:Q .ret σ g):EvY P S0 J .ret σ g Q:=EvY.plain (Ai h)
section
variable {ι:Type} {P:Program} {S0:Nat→Prop} {J:ι→(Nat→Prop)→World→Prop} {g:ι} {s:List (Nat × AV)} {b:List (Nat × Obj)} {n t e:Nat} {Q:Exit→St→ι→Prop}
theorem XK {c:Operand} {x y:Code} {bb:Bool} (ht:bb=true→EvY P S0 J x ⟨s,b,n,t,e⟩ g Q) (hf:bb=false→EvY P S0 J y ⟨s,b,n,t,e⟩ g Q) (hc:AJ s c=some (.lit (.bool bb)):=by exact rfl):EvY P S0 J (.cond c x y) ⟨s,b,n,t,e⟩ g Q:=KP (AB hc) ht hf
theorem Ln {c:Operand} {x y:Code} {p:Prop} [Decidable p] (ht:p→EvY P S0 J x ⟨s,b,n,t,e⟩ g Q) (hf:¬ p→EvY P S0 J y ⟨s,b,n,t,e⟩ g Q) (hc:AJ s c=some (.lit (.bool (decide p))):=by exact rfl):EvY P S0 J (.cond c x y) ⟨s,b,n,t,e⟩ g Q:=XK (fun h=>ht (of_decide_eq_true h)) (fun h=>hf (of_decide_eq_false h)) hc
theorem Sc {c:Operand} {x y:Code} (h:EvY P S0 J x ⟨s,b,n,t,e⟩ g Q) (hc:AJ s c=some (.lit (.bool true)):=by exact rfl):EvY P S0 J (.cond c x y) ⟨s,b,n,t,e⟩ g Q:=KP (AB hc) (fun _=>h) (fun h=>by cases h)
theorem Sb {c:Operand} {x y:Code} (h:EvY P S0 J y ⟨s,b,n,t,e⟩ g Q) (hc:AJ s c=some (.lit (.bool false)):=by exact rfl):EvY P S0 J (.cond c x y) ⟨s,b,n,t,e⟩ g Q:=KP (AB hc) (fun h=>by cases h) (fun _=>h)
theorem CX {σ:St} {id:Nat} {l:List Oper} {y:Code} (h:∀ K:St→Prop,(∀ σ',EvY P S0 J y σ' g Q→K σ')→SeqL P ⟨l⟩ l σ K):EvY P S0 J (.seq (.region id ⟨l⟩ false) y) σ g Q:=TO (Ah fun K hK=>h K fun σ' h'=>hK σ' h')
theorem IH {c:Operand} {x y:Code} {p:Prop} [Decidable p] (ht:p→EvY P S0 J y ⟨s,b,n,t,e⟩ g Q) (hf:¬ p→EvY P S0 J x ⟨s,b,n,t,e⟩ g (RU (fun σ' g'=>EvY P S0 J y σ' g' Q) Q)) (hc:AJ s c=some (.lit (.bool (decide p))):=by exact rfl):EvY P S0 J (.seq (.cond c .skip x) y) ⟨s,b,n,t,e⟩ g Q:=DK (Ln (fun h=>H9 (ht h)) hf hc)
theorem Eo {σ:St} {id:Nat} {l:List Oper} (h:∀ K:St→Prop,(∀ σ',Q .normal σ' g→K σ')→SeqL P ⟨l⟩ l σ K):EvY P S0 J (.region id ⟨l⟩ false) σ g Q:=EvY.plain (Ah h)
theorem Ob {id:Nat} {l:List Oper} (T:List (List Bool)) (K:Nat) (h:∀ Kt:St→Prop,(∀ σ',Q .normal σ' g→Kt σ')→DM P l T (n+4 * K) (Mw P l (n+4 * K) Kt) l K 0 ⟨s,b,n,t,e⟩ []) (hm:P.follows .mixedOrders=true:=by exact rfl) (hok:IL l T ⟨s,b,n,t,e⟩ K=true:=by exact rfl)
 (hch:E5 l T K=true:=by exact rfl) (hTl:Nat.ble K T.length=true:=by exact rfl) (hkb:FE n b=true:=by exact rfl):EvY P S0 J (.region id ⟨l⟩ true) ⟨s,b,n,t,e⟩ g Q:=EvY.plain (CP T K h hm hok hch hTl hkb)
theorem If {c:Code} {κ:Type} (G:κ→ι) (rs:List Nat) (ks:List Nat) {kept:List (Nat × AV)} (U:κ→List (Nat × AV)) (O:κ→List (Nat × Obj)) (μ:κ→Nat) (x0:κ) (hk:Kept (pos rs 0) s ks kept) (hO:BG ⟨s,b,n,t,e⟩ (pos rs 0) 0 rs=some (O x0)) (hU:Cv (pos rs 0) ⟨s,b,n,t,e⟩ (U x0)) (hg:g=G x0)
 (round:∀ x (R:Exit→St→ι→Prop),(∀ e' σ' g',LY (fun x=>⟨U x ++ kept,O x,rs.length,t,e⟩) G μ x Q e' σ' g'→R e' σ' g')→EvY P S0 J c ⟨U x ++ kept,O x,rs.length,t,e⟩ (G x) R) (hnd:rs.Nodup:=by decide) (hl:∀ i,i < e→rs[i]?= some i:=by decide):EvY P S0 J (.loop c) ⟨s,b,n,t,e⟩ g Q :=
 TN (fun x=>⟨U x ++ kept,O x,rs.length,t,e⟩) G μ x0 hg (Wk.ren rs hnd (C3 hU hk.ren) hO rfl rfl rfl hl) fun x=>round x _ fun _ _ _ h=>h
theorem IV {κ:Type} {G:κ→ι} {U:κ→List (Nat × AV)} {kept:List (Nat × AV)} {O:κ→List (Nat × Obj)} {μ:κ→Nat} {x:κ} (rs ks:List Nat) {m:Nat} (y:κ) (hμ:μ y < μ x) (hO:BG ⟨s,b,n,t,e⟩ (pos rs 0) 0 rs=some (O y)) (hU:Cv (pos rs 0) ⟨s,b,n,t,e⟩ (U y)) (hk:Kept (pos rs 0) s ks kept) (hg:g=G y) (hm:rs.length=m:=by exact rfl)
 (hnd:rs.Nodup:=by decide) (hl:∀ i,i < e→rs[i]?= some i:=by decide):LY (fun x=>⟨U x ++ kept,O x,m,t,e⟩) G μ x Q .normal ⟨s,b,n,t,e⟩ g :=
 ⟨y,hμ,Wk.ren rs hnd (C3 hU hk.ren) hO hm.symm rfl rfl hl,hg⟩
end
section
variable {P:Program} {s:List (Nat × AV)} {b:List (Nat × Obj)} {n t e:Nat} {Q:Exit→St→Prop}
end
section
variable {P:Program} {l0 n0:Nat} {s:List (Nat × AV)} {b:List (Nat × Obj)} {n t e:Nat} {Q:Exit→St→Prop}
theorem Ve {c:Operand} {x y:Code} {bb:Bool} (ht:bb=true→EvI P l0 n0 x ⟨s,b,n,t,e⟩ Q) (hf:bb=false→EvI P l0 n0 y ⟨s,b,n,t,e⟩ Q) (hc:AJ s c=some (.lit (.bool bb)):=by exact rfl):EvI P l0 n0 (.cond c x y) ⟨s,b,n,t,e⟩ Q:=TK (AB hc) ht hf
theorem Sa {c:Operand} {x y:Code} {p:Prop} [Decidable p] (ht:p→EvI P l0 n0 x ⟨s,b,n,t,e⟩ Q) (hf:¬ p→EvI P l0 n0 y ⟨s,b,n,t,e⟩ Q) (hc:AJ s c=some (.lit (.bool (decide p))):=by exact rfl):EvI P l0 n0 (.cond c x y) ⟨s,b,n,t,e⟩ Q:=Ve (fun h=>ht (of_decide_eq_true h)) (fun h=>hf (of_decide_eq_false h)) hc
theorem W8 {c:Operand} {x y:Code} {p:Prop} [Decidable p] (ht:¬ p→EvI P l0 n0 x ⟨s,b,n,t,e⟩ Q) (hf:p→EvI P l0 n0 y ⟨s,b,n,t,e⟩ Q) (hc:AJ s c=some (.lit (.bool (!decide p))):=by exact rfl):EvI P l0 n0 (.cond c x y) ⟨s,b,n,t,e⟩ Q:=Ve (fun h=>ht (by simpa using h)) (fun h=>hf (by simpa using h)) hc
theorem Ge {σ:St} {id:Nat} {l:List Oper} {y:Code} (h:∀ K:St→Prop,(∀ σ',EvI P l0 n0 y σ' Q→K σ')→SeqL P ⟨l⟩ l σ K) (hd:l.all DN=true:=by exact rfl):EvI P l0 n0 (.seq (.region id ⟨l⟩ false) y) σ Q:=Mm (Lm hd (h _ fun _ h=>h))
theorem J9 {σ:St} {id:Nat} {l:List Oper} (h:∀ K:St→Prop,(∀ σ',Q .normal σ'→K σ')→SeqL P ⟨l⟩ l σ K) (hd:l.all DN=true:=by exact rfl):EvI P l0 n0 (.region id ⟨l⟩ false) σ Q:=Lm hd (h _ fun _ h=>h)
end
theorem FK {P:Program} {ops:Array Oper} {n:Nat} {l2:List Oper} {Q:Exit→Act→World→Prop}:∀ (l1:List Oper) (a:Act) (w:World),F7 P ops (fun e a w=>e= .normal∧wpListIn Fence.wide n P ops Q l2 a w) l1 a w→wpListIn Fence.wide n P ops Q (l1 ++ l2) a w
 |[],a,w,h=>by rw [Gd] at h;exact h.2
 |o :: l1,a,w,h=>by
  rw [CW] at h;simp only [List.cons_append,wpListIn]
  split at h
  ·rename_i hw
   rw [if_pos hw];refine ⟨fun _ _=>trivial,?_⟩;have e:o.semAt Fence.wide.round a.eval=execOp a.eval o:=rfl;rw [e]
   unfold Oper.wp at h
   generalize (execOp a.eval o).run P w=r at *
   cases r with
   |ok x w' =>
    cases x <;> simp only [Oper.upon,Oper.uponIn] at h ⊢
    case value u=>exact FK l1 _ _ h
    case skip=>exact FK l1 _ _ h
    case defer d=>exact FK l1 _ _ h
    case enter f args =>
     refine ⟨fun h0=>by simp [Fence.wide] at h0,callsIn_wide.2 (h.mono ?_)⟩;rintro e w'' h'
     cases e <;> simp only at h' ⊢
     ·exact FK l1 _ _ h'
     ·exact absurd h'.1 (by simp)
     ·obtain ⟨a0,w0,h0,_⟩:=h'
      cases h0
    case row row args =>
     refine ⟨fun h0=>by simp [Fence.wide] at h0,?_⟩;intro c cs _;obtain ⟨v,w',r,s⟩:=h c cs;exact ⟨v,w',FK l1 _ _ r,stepsIn_wide.2 s⟩
   |halt x w' =>
    cases x <;> simp only [Oper.upon,Oper.uponIn] at h ⊢
    case panic v=>exact absurd h.1 (by simp)
  ·rename_i hw
   rw [if_neg hw];exact ⟨fun _ _=>trivial,FK l1 _ _ h⟩
def yvC:List AV→Option (List Value)
 |[]=>some []
 |.lit v :: l=>(yvC l).map (v :: ·)
 |_=>none
def yvAV:AV→Option Value
 |.lit v=>some v
 |.agg cs=>(yvC cs).map fun l=> .agg l.toArray
 |_=>none
def yvL:List AV→Option (List Value)
 |[]=>some []
 |v :: l=>match yvAV v,yvL l with
  |some y,some ys=>some (y :: ys)
  |_,_=>none
theorem P4 {E:Env}:∀ {cs:List AV} {vs xs:List Value},yvC cs=some vs→FVc E cs xs→xs=vs
 |[],vs,xs,h,hx=>by
  simp only [yvC,Option.some.injEq] at h;subst h
  simpa [FVc] using hx
 |.lit v :: l,vs,xs,h,hx=>by
  simp only [yvC,Option.map_eq_some_iff] at h;obtain ⟨ws,h1,rfl⟩:=h;simp only [FVc,FV] at hx;obtain ⟨y,ys,rfl,_,rfl,h2⟩:=hx;rw [P4 h1 h2]
 |.top :: _,_,_,h,_=>by cases h
 |.agg _ :: _,_,_,h,_=>by cases h
 |.tup _ :: _,_,_,h,_=>by cases h
 |.sh _ _ :: _,_,_,h,_=>by cases h
 |.sadr _ _ :: _,_,_,h,_=>by cases h
 |.als _ _ _ :: _,_,_,h,_=>by cases h
 |.adr _ _ _ :: _,_,_,h,_=>by cases h
 |.fn _ _ _ :: _,_,_,h,_=>by cases h
 |.hd _ :: _,_,_,h,_=>by cases h
 |.shm _ _ :: _,_,_,h,_=>by cases h
 |.rem _ _ _ :: _,_,_,h,_=>by cases h
theorem TE {E:Env} {v:AV} {y x:Value} (h:yvAV v=some y) (hx:FV E v x):x=y:=by
 cases v <;> simp only [yvAV] at h
 case lit v =>
  simp only [Option.some.injEq] at h;subst h
  simpa [FV] using hx
 case agg cs =>
  simp only [Option.map_eq_some_iff] at h;obtain ⟨vs,h1,rfl⟩:=h;simp only [FV] at hx;obtain ⟨xs,rfl,h2⟩:=hx;rw [← P4 h1 h2]
 all_goals cases h
theorem P5 {E:Env}:∀ {cs:List AV} {vs xs:List Value},yvL cs=some vs→FVs E cs xs→xs=vs
 |[],vs,xs,h,hx=>by
  simp only [yvL,Option.some.injEq] at h;subst h
  simpa [FVs] using hx
 |c :: cs,vs,xs,h,hx=>by
  simp only [yvL] at h
  split at h
  ·rename_i y ys h1 h2
   simp only [Option.some.injEq] at h;subst h;simp only [FVs] at hx;obtain ⟨z,zs,rfl,g1,g2⟩:=hx;rw [TE h1 g1,P5 h2 g2]
  ·cases h
def YP (P:Program) (ops:Array Oper) (l:Nat) (l2:List Oper) (zs:List Operand) (y d:Nat) (v:Array Value) (R:Bool→St→Prop) (σ:St):Prop :=
 σ.ev (.tmp y)= .lit (.func (.yield l) #[] #[])∧(∃ vs:List Value,yvL (zs.map σ.ev)=some vs∧v=vs.toArray)∧d < σ.nt ∧
  SeqL P ops l2 (σ.put (some d) (.lit (.bool true))) (R true)∧SeqL P ops l2 (σ.put (some d) (.lit (.bool false))) (R false)
theorem QA {α:Type} {P:Program} {l:Nat} {N:List α→α→Prop} {encs:α→Array Value} {S0:Nat→Prop} {J:Bool × List α→(Nat→Prop)→World→Prop} (hR:Rnd P l encs N S0 J) {σ0:St} {pre:List α} {Q:Exit→St→Bool × List α→Prop}
 {id d y ty:Nat} {zs:List Operand} {ts:Array TypeId} {pos:String} {aft:Array Edge} {l2:List Oper} (l1:List Oper) (x:α) (hl:N pre x)
 (h:∀ K:St→Prop,(∀ σ,YP P ⟨l1 ++ ⟨some d, .call { callee:= .value (.tmp y),args:=⟨zs⟩,argTypes:=ts },ty,pos,aft,none⟩ :: l2⟩ l l2 zs y d (encs x) (fun b σ'=>Q .normal σ' (b,pre ++ [x])) σ→K σ)→SeqL P ⟨l1 ++ ⟨some d, .call { callee:= .value (.tmp y),args:=⟨zs⟩,argTypes:=ts },ty,pos,aft,none⟩ :: l2⟩ l1 σ0 K) :
 EvY P S0 J (.region id ⟨l1 ++ ⟨some d, .call { callee:= .value (.tmp y),args:=⟨zs⟩,argTypes:=ts },ty,pos,aft,none⟩ :: l2⟩ false) σ0 (true,pre) Q:=by
 intro C E0 X0 a0 Z hi hr0;refine (wpIn_wide (n:=1)).1 (wpIn_region_list (FK l1 _ _ (h _ (fun _ h=>h) C E0 X0 a0 hr0 _ ?_)));rintro E X σ a hr ⟨hy,hx,hd,ht,hf⟩;refine ⟨rfl,?_⟩;have hk:Keep Z C.w0 E.w:=hr.kept.mono hi.own;have hj:=hR.step _ _ _ _ hi.j hk;obtain ⟨Z1,hZ1⟩:∃ Z1,GZ Z C.w0 E.w=Z1:=⟨_,rfl⟩;rw [hZ1] at hj
 have hown:∀ b,C.own b∨C.w0.heap.size≤b→b < E.w.heap.size→Z1 b:=fun b hb hlt=>by
  rw [← hZ1]
  rcases hb with hb | hb
  ·exact .inl (hi.own b hb)
  exact .inr ⟨hb,hlt⟩
 have hSZ:∀ b,E.S b→Z1 b∨S0 b:=fun b hb=>by
  rcases hr.grow b hb with h | h | h
  ·rcases hi.S0 b h with h | h
   ·rw [← hZ1];exact .inl (.inl h)
   exact .inr h
  ·exact .inl (hown b (.inr h) (hr.stay b hb).1)
  exact .inl (hown b (.inl h) (hr.stay b hb).1)
 have hoZ:∀ r o b,Al σ.objs r=some o→blockOf (E.H r)=some b→Z1 b:=fun r o b h1 h2=>hown b (hr.mine r o b h1 h2) ((hr.objs r o h1).2.2.1.lt h2);obtain ⟨fn,tmps,assign,body,hrun,hround⟩:=hR.round pre Z1 x E.w hj hl;have hyv:=hr.ev (.tmp y);rw [hy] at hyv;simp only [FV] at hyv;obtain ⟨vs,hvs,hex⟩:=hx;have hargs:zs.map a.eval=vs:=P5 hvs (hr.evs zs)
 have fin:∀ (b:Bool) (B:World),Keep (fun b=>¬ (Z1 b∨S0 b)) E.w B→Rel { C.at E σ with w0:=B } { E with w:=B } X (σ.put (some d) (.lit (.bool b))) (a.put (some d) (.bool b)):=by
  intro b B hB;have hle:E.le { E with w:=B }:=⟨fun b hb=>⟨hb,hB.block b (hr.stay b hb).1 fun h=>h (hSZ b hb)⟩,fun r hr=>⟨hr,rfl,rfl⟩⟩;have hb:∀ r o,Al σ.objs r=some o→∀ b,blockOf (E.H r)=some b→B.heap[b]?= E.w.heap[b]?:=fun r o h1 b h2=>hB.block b ((hr.objs r o h1).2.2.1.lt h2) fun h=>h (.inl (hoZ r o b h1 h2))
  have h0:Rel { C.at E σ with w0:=B } { E with w:=B } X σ a :=
   ⟨fun s v hv=>FV.le _ hle _ (hr.slots s v hv),hr.size,hr.defers,fun r o h=>⟨(hr.objs r o h).1,(hr.objs r o h).2.1,(hr.objs r o h).2.2.1.kept (hb r o h),FVr.le _ _ (hle.by _) _ (hr.objs r o h).2.2.2⟩,hr.apart,
     fun b hb=>⟨Nat.lt_of_lt_of_le (hr.stay b hb).1 hB.size,(hr.stay b hb).2⟩,hr.fresh,Keep.refl _ _,fun r o b h1 h2=> .inl ⟨r,o,h1,h2⟩,hr.env,hr.envD,fun b hb=>hb,fun b hb=> .inl hb,hr.envk,hr.glob.le hle⟩
  exact h0.put (some d) (fun d' e=>by cases e;exact hd) (by simp [FV])
 have hin:∀ (b:Bool) (B:World) g',J g' Z1 B→InY S0 J { C.at E σ with w0:=B } g' Z1:=fun b B g' hj =>
  ⟨hi.dfr,fun b ⟨r,o,h1,h2⟩=>hoZ r o b h1 h2,hSZ,hj⟩
 simp only [wpListIn];rw [if_pos (by simp [Region.wanted])];refine ⟨fun _ _=>trivial,?_⟩;have he:(⟨some d, .call { callee:= .value (.tmp y),args:=⟨zs⟩,argTypes:=ts },ty,pos,aft,none⟩:Oper).semAt Fence.wide.round a.eval=execOp a.eval ⟨some d, .call { callee:= .value (.tmp y),args:=⟨zs⟩,argTypes:=ts },ty,pos,aft,none⟩:=rfl;rw [he]
 have hr1:(execOp a.eval ⟨some d, .call { callee:= .value (.tmp y),args:=⟨zs⟩,argTypes:=ts },ty,pos,aft,none⟩).run P E.w= .ok (.round l fn tmps assign body) E.w:=by
  unfold execOp
  simp only [resolve,invoke,Sem.run_bind,Sem.run_pure,Result.andThen_ok,List.map_toArray,hyv,hargs];rw [hex] at hrun
  simpa [go_sem] using hrun
 rw [hr1];refine ⟨fun h=>by simp [Fence.wide] at h,?_⟩;refine hround.mono ?_
 have fin2:∀ (b:Bool) (B:World),J (b,pre ++ [x]) Z1 B→Keep (fun b=>¬ (Z1 b∨S0 b)) E.w B→SeqL P ⟨l1 ++ ⟨some d, .call { callee:= .value (.tmp y),args:=⟨zs⟩,argTypes:=ts },ty,pos,aft,none⟩ :: l2⟩ l2 (σ.put (some d) (.lit (.bool b))) (fun σ'=>Q .normal σ' (b,pre ++ [x])) →
  wpListIn Fence.wide 1 P ⟨l1 ++ ⟨some d, .call { callee:= .value (.tmp y),args:=⟨zs⟩,argTypes:=ts },ty,pos,aft,none⟩ :: l2⟩ (fun e a' w'=>∃ C' E' X' σ' g' Z',E'.w=w'∧InY S0 J C' g' Z'∧Rel C' E' X' σ' a'∧Q e σ' g') l2 (a.put (some d) (.bool b)) B:=by
  intro b B hj' hB hs
  have:=FK (n:=1) (l2:=[]) l2 _ _ (hs _ _ _ _ (fin b B hB) (fun e a' w'=>e= .normal∧wpListIn Fence.wide 1 P ⟨l1 ++ ⟨some d, .call { callee:= .value (.tmp y),args:=⟨zs⟩,argTypes:=ts },ty,pos,aft,none⟩ :: l2⟩ (fun e a' w'=>∃ C' E' X' σ' g' Z',E'.w=w'∧InY S0 J C' g' Z'∧Rel C' E' X' σ' a'∧Q e σ' g') [] a' w')
   (fun E' X' σ' a' h1 h2=>⟨rfl,by simp only [wpListIn];exact ⟨_,E',X',σ',_,Z1,rfl,hin b B _ hj',h1,h2⟩⟩))
  rwa [List.append_nil] at this
 rintro e B ⟨hB,⟨rfl,hj'⟩ | ⟨rfl,hj'⟩⟩
 ·exact fin2 true B hj' hB ht
 exact fin2 false B hj' hB hf
theorem QB {α:Type} {P:Program} {l:Nat} {N:List α→α→Prop} {encs:α→Array Value} {S0:Nat→Prop} {J:Bool × List α→(Nat→Prop)→World→Prop} (hR:Rnd P l encs N S0 J) {σ0:St} {pre:List α} {Q:Exit→St→Bool × List α→Prop}
 {id d y ty:Nat} {zs:List Operand} {ts:Array TypeId} {pos:String} {aft:Array Edge} {l1:List Oper} (i:Nat) (x:α) (hl:N pre x)
 (ho:l1[i]?= some ⟨some d, .call { callee:= .value (.tmp y),args:=⟨zs⟩,argTypes:=ts },ty,pos,aft,none⟩)
 (h:∀ K:St→Prop,(∀ σ,YP P ⟨l1⟩ l (l1.drop (i+1)) zs y d (encs x) (fun b σ'=>Q .normal σ' (b,pre ++ [x])) σ→K σ)→SeqL P ⟨l1⟩ (l1.take i) σ0 K) :
 EvY P S0 J (.region id ⟨l1⟩ false) σ0 (true,pre) Q:=by
 obtain ⟨hlt,he⟩:=List.getElem?_eq_some_iff.1 ho
 have e:l1=l1.take i ++ ⟨some d, .call { callee:= .value (.tmp y),args:=⟨zs⟩,argTypes:=ts },ty,pos,aft,none⟩ :: l1.drop (i+1):=by
  rw [← he,List.getElem_cons_drop,List.take_append_drop]
 have:=QA hR (σ0:=σ0) (Q:=Q) (id:=id) (d:=d) (y:=y) (ty:=ty) (zs:=zs) (ts:=ts) (pos:=pos) (aft:=aft) (l2:=l1.drop (i+1)) (l1.take i) x hl;rw [← e] at this;exact this h
theorem QC {α:Type} {P:Program} {l:Nat} {N:List α→α→Prop} {encs:α→Array Value} {S0:Nat→Prop} {J:Bool × List α→(Nat→Prop)→World→Prop} (hR:Rnd P l encs N S0 J) {σ0:St} {pre:List α} {Q:Exit→St→Bool × List α→Prop} {c:Code}
 {id d y ty:Nat} {zs:List Operand} {ts:Array TypeId} {pos:String} {aft:Array Edge} {l1:List Oper} (i:Nat) (x:α) (hl:N pre x)
 (ho:l1[i]?= some ⟨some d, .call { callee:= .value (.tmp y),args:=⟨zs⟩,argTypes:=ts },ty,pos,aft,none⟩)
 (h:∀ K:St→Prop,(∀ σ,YP P ⟨l1⟩ l (l1.drop (i+1)) zs y d (encs x) (fun b σ'=>EvY P S0 J c σ' (b,pre ++ [x]) Q) σ→K σ)→SeqL P ⟨l1⟩ (l1.take i) σ0 K) :
 EvY P S0 J (.seq (.region id ⟨l1⟩ false) c) σ0 (true,pre) Q:=DK (QB hR i x hl ho h)
theorem SeqL.k {P:Program} {ops:Array Oper} {l:List Oper} {σ:St} {Q:St→Prop} (h:∀ K:St→Prop,(∀ σ',Q σ'→K σ')→SeqL P ops l σ K):SeqL P ops l σ Q:=h Q fun _ h=>h
section
variable {P:Program} {s:List (Nat × AV)} {b:List (Nat × Obj)} {n t e:Nat}
theorem WM (rs:List Nat) (ks:List Nat) {kept:List (Nat × AV)} (U:List (Nat × AV)) (O:List (Nat × Obj)) (hk:Kept (pos rs 0) s ks kept) (hO:BG ⟨s,b,n,t,e⟩ (pos rs 0) 0 rs=some O) (hU:Cv (pos rs 0) ⟨s,b,n,t,e⟩ U) (hnd:rs.Nodup:=by decide) (hl:∀ i,i < e→rs[i]?= some i:=by decide) :
 Wk ⟨s,b,n,t,e⟩ ⟨U ++ kept,O,rs.length,t,e⟩:=Wk.ren rs hnd (C3 hU hk.ren) hO rfl rfl rfl hl
theorem V4 {l0 n0:Nat} {Q:Exit→St→Prop} {ops:List Oper} {id m:Nat} {L0:Array Bool} (hlen:ops.length=m) (h4:Array.replicate ops.length false=L0) (hm:P.follows .mixedOrders=true)
 (h:∀ Kt:St→Prop,(∀ σ',Q .normal σ'→Kt σ')→HP P ops m L0 ⟨s,b,n,t,e⟩ Kt) (hd:ops.all DN=true:=by exact rfl):EvI P l0 n0 (.region id ⟨ops⟩ true) ⟨s,b,n,t,e⟩ Q:=TM hd hlen h4 hm h
end
def SeqA {α:Type} (P:Program) (gf:Nat) (args:List AV) (encs:α→Array Value) (S Sp:List α→Prop) (N:List α→α→Prop):Prop :=
 EG P gf∧∀ (E:Env) (xs:List Value) (l:Nat) (S0 Z0:Nat→Prop) (J:Bool × List α→(Nat→Prop)→World→Prop),FVs E.clear args xs→(∀ b,E.S b→b < E.w.heap.size)→LaidOK E.w E.S→Rnd P l encs N S0 J→(∀ b,E.S b→Z0 b∨S0 b)→J (true,[]) Z0 E.w →
  Calls P gf (xs ++ [Value.func (Fn.yield l) #[] #[]]).toArray E.w fun e B=>(∃ v,e= .returned v)∧∃ g Z,(g.1=true→S g.2)∧(g.1=false→Sp g.2)∧J g Z B
theorem FVs.app {E:Env}:∀ {a b:List AV} {xs ys:List Value},FVs E a xs→FVs E b ys→FVs E (a ++ b) (xs ++ ys)
 |[],b,xs,ys,h,h2=>by
  simp only [FVs] at h;subst h;exact h2
 |c :: a,b,xs,ys,h,h2=>by
  simp only [FVs] at h;obtain ⟨y,zs,rfl,h3,h4⟩:=h;exact ⟨y,zs ++ ys,rfl,h3,FVs.app h4 h2⟩
theorem SeqA.of_body {α:Type} {P:Program} {gf:FuncId} {fn:Func} {c:Code} {args:List AV} {N:List α→α→Prop} {encs:α→Array Value} {S Sp:List α→Prop}
 (hf:P.funcs[gf]?= some fn) (hb:fn.body=some c) (hnm:(fn.name == "runtime.NumGoroutine")=false) (hrs:fn.results= #[]) (hn:args.length+1≤fn.ntmps)
 (h:∀ l S0 (J:Bool × List α→(Nat→Prop)→World→Prop),Rnd P l encs N S0 J→EvY P S0 J c ⟨argSlots 0 (args ++ [.lit (.func (.yield l) #[] #[])]),[],0,fn.ntmps,0⟩ (true,[]) (fun e σ' g'=>(e= .normal∨e= .ret)∧(g'.1=true→S g'.2)∧(g'.1=false→Sp g'.2))) :
 SeqA P gf args encs S Sp N:=by
 refine ⟨⟨fn,hf,by simp [hb],hnm⟩,fun E xs0 l S0 Z0 J hx0 hS hG hR hSZ hJ=>?_⟩;have hx:FVs E.clear (args ++ [.lit (.func (.yield l) #[] #[])]) (xs0 ++ [Value.func (Fn.yield l) #[] #[]]):=FVs.app hx0 ⟨_,_,rfl,by simp [FV],by simp [FVs]⟩
 generalize xs0 ++ [Value.func (Fn.yield l) #[] #[]]=xs at hx ⊢
 have hn2:(args ++ [AV.lit (.func (.yield l) #[] #[])]).length≤fn.ntmps:=by simpa using hn
 have h':=h l S0 J hR
 generalize args ++ [AV.lit (.func (.yield l) #[] #[])]=args at hx hn2 h'
 have hxl:=hx.length
 let C:Ctx:=⟨E.w,fun _=>False,fun _=>undef,0,E.S,fun _=>0,[]⟩
 have hrel:Rel C E.clear (fun _=>[]) ⟨argSlots 0 args,[],0,fn.ntmps,0⟩ { tmps:=xs.toArray ++ Array.replicate (fn.ntmps - xs.toArray.size) undef,defers:=[] }:=by
  refine ⟨?_,?_,rfl,?_,?_,?_,?_,Keep.refl _ _,?_,?_,?_,fun b hb=>hb,fun b hb=> .inl hb,rfl,hG⟩
  ·intro s v hv;obtain ⟨_,h2⟩:=find_argSlots args 0 s v hv;simp only [Nat.sub_zero] at h2;obtain ⟨y,hy,hfv⟩:=hx.get h2;have hlt:s < xs.length:=(List.getElem?_eq_some_iff.1 hy).1
   have:(xs.toArray ++ Array.replicate (fn.ntmps - xs.toArray.size) undef).getD s undef=y:=by
    have e:(xs.toArray ++ Array.replicate (fn.ntmps - xs.toArray.size) undef)[s]?= some y:=by
     rw [Array.getElem?_append_left (by simpa using hlt)]
     simpa using hy
    rw [Array.getD_eq_getD_getElem?,e];rfl
   rw [this];exact hfv
  ·simp [hxl];omega
  ·intro r o hr;simp [Al] at hr
  ·intro r r' o o' b hr;simp [Al] at hr
  ·intro b hb;exact ⟨hS b hb,fun r o hr=>by simp [Al] at hr⟩
  ·intro r hr;exact hr.elim
  ·intro r o b hr;simp [Al] at hr
  ·intro r hr;exact absurd hr (Nat.not_lt_zero _)
  intro r hr;exact absurd hr (Nat.not_lt_zero _)
 have hin:InY S0 J C (true,[]) Z0:=⟨rfl,fun b hb=>hb.elim,hSZ,hJ⟩;refine calls_of_wp hf hb (wp_mono (h' C E.clear _ _ _ hin hrel) ?_);rintro e a' w' ⟨C',E',X',σ',g',Z',rfl,h2,h3,h4,h5,h6⟩;have hd:a'.defers=[]:=h3.defers.trans h2.dfr
 have hr2:(results fn a'.tmps).run P E'.w= .ok (.tuple #[]) E'.w:=by
  unfold results
  simp [hrs]
 have hj:=hR.step _ _ _ _ h2.j (h3.kept.mono h2.own);have fin:(∃ v,Ending.returned (.tuple #[])= .returned v)∧∃ g Z,(g.1=true→S g.2)∧(g.1=false→Sp g.2)∧J g Z E'.w:=⟨⟨_,rfl⟩,g',_,h5,h6,hj⟩
 rcases h4 with rfl | rfl
 ·exact ⟨hd,_,hr2,fin⟩
 exact ⟨hd,_,hr2,fin⟩
theorem RI.next {C:Ctx} {s0:List (Nat × AV)} {o:List (Nat × Obj)} {n nt:Nat} {S0:Nat→Prop} {a:Act} {Z:Nat→Prop} {E:Env} {X:Nat→List Value} (h:RI C s0 o n nt S0 a Z E X) {m:Nat} (hm:n≤m):RI C s0 o m nt S0 a Z E X :=
 ⟨⟨h.rel.slots,h.rel.size,h.rel.defers,h.rel.objs,h.rel.apart,h.rel.stay,fun r hr=>Nat.lt_of_lt_of_le (h.rel.fresh r hr) hm,h.rel.kept,h.rel.mine,h.rel.env,h.rel.envD,h.rel.base,h.rel.grow,h.rel.envk,h.rel.glob⟩,h.S0,h.lt,h.new,h.fr,h.ob⟩
theorem RI.lower {C:Ctx} {s0:List (Nat × AV)} {o:List (Nat × Obj)} {n nt:Nat} {S0:Nat→Prop} {a:Act} {Z:Nat→Prop} {E:Env} {X:Nat→List Value} (h:RI C s0 o n nt S0 a Z E X) {m:Nat} (hm:∀ r,E.D r→r < m):RI C s0 o m nt S0 a Z E X :=
 ⟨⟨h.rel.slots,h.rel.size,h.rel.defers,h.rel.objs,h.rel.apart,h.rel.stay,hm,h.rel.kept,h.rel.mine,h.rel.env,h.rel.envD,h.rel.base,h.rel.grow,h.rel.envk,h.rel.glob⟩,h.S0,h.lt,h.new,h.fr,h.ob⟩
def TT (P:Program) (l m:Nat) (body:Code) (nt K:Nat) (Q:Exit→St→Prop):Exit→St→Prop
 |.normal,σ1=>σ1.nt=nt∧σ1.env=K∧EvI P l m body σ1 Q
 |_,_=>False
theorem FVs.split {E:Env}:∀ {a b:List AV} {zs:List Value},FVs E (a ++ b) zs→∃ xs ys,zs=xs ++ ys∧FVs E a xs∧FVs E b ys
 |[],b,zs,h=>⟨[],zs,rfl,by simp [FVs],h⟩
 |c :: a,b,zs,h=>by
  simp only [List.cons_append,FVs] at h;obtain ⟨y,ys,rfl,h1,h2⟩:=h;obtain ⟨us,vs,rfl,h3,h4⟩:=FVs.split h2;exact ⟨y :: us,vs,rfl,⟨y,us,rfl,h1,h3⟩,h4⟩
end Go.AM
