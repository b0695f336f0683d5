/-
  Part 11 of the proof: the abstract machine, proved sound over the model.
  Conditions: none.
-/
import Derived.RangeFuncCalls
import Derived.RangeFuncIn
import Derived.RangeFuncLeaves
import Derived.OrdersIn
import Derived.TacticsIn
import Derived.Test.YtaololdbooblkaaGreatDoorX10
set_option linter.unusedVariables false
set_option linter.unusedSimpArgs false
set_option linter.unusedSectionVars false
namespace Go.AM
abbrev IU (l:Nat):Fence:=Fence.wide.inRound l
theorem Wj {n l:Nat} {P:Program} {row:String} {args:Array Value} {w:World} {R:Value→World→Prop} (h:Rows P row args w R):RowsIn (IU l) n P row args w R :=
 fun c cs _=>let ⟨v,w',r,s⟩:=h c cs;⟨v,w',r,stepsIn_wide.2 s⟩
def DN (o:Oper):Bool:=match o.op with
 |.defer _=>false
 |_=>true
theorem ON {o:Oper} (h:DN o=true):∀ c,o.op≠ .defer c:=fun c e=>by
 unfold DN at h
 rw [e] at h
 cases h
theorem Qw {l n:Nat} {P:Program} {o:Oper} {a:Act} {w:World} {K:Act→World→Prop} {Q:Exit→Act→World→Prop} (hd:DN o=true) (h:o.wp P a w K Q):o.wpIn (IU l) n P a w K Q:=by
 refine ⟨fun _ _=>trivial,?_⟩;have e:o.semAt (IU l).round a.eval=execOp a.eval o:=Oper.semAt_some l _ _ (ON hd);rw [e]
 unfold Oper.wp at h
 generalize (execOp a.eval o).run P w=r at *
 cases r with
 |ok x w' =>
  cases x <;> simp only [Oper.upon,Oper.uponIn] at h ⊢
  case value u=>exact h
  case skip=>exact h
  case defer d=>exact h
  case enter f args=>exact ⟨fun h0=>by simp [IU,Fence.wide] at h0,CallsIn.inRound l (callsIn_wide.2 h)⟩
  case row row args=>exact ⟨fun h0=>by simp [IU,Fence.wide] at h0,Wj h⟩
 |halt x w'=>cases x <;> simp only [Oper.upon,Oper.uponIn] at h ⊢ <;> exact h
theorem Yl {l n:Nat} {P:Program} {ops:Array Oper} {Q:Exit→Act→World→Prop} {i:Nat} {K:Act→World→Prop} {a:Act} {w:World} (hd:∀ o ∈ ops.toList,DN o=true) (hq:¬ LetsOut Q) (h:wpOp P ops Q i K a w):wpOpIn (IU l) n P ops Q i K a w:=by
 unfold wpOp at h
 unfold wpOpIn
 split
 ·rename_i ho
  simp only [ho] at h;exact h
 rename_i o ho
 simp only [ho] at h
 split
 ·rename_i hw
  simp only [hw,if_true] at h
  rcases h with h | h
  ·exact Qw (hd o (by
    obtain ⟨h1,h2⟩:=Array.getElem?_eq_some_iff.1 ho;rw [← h2]
    exact Array.getElem_mem_toList h1)) h
  exact absurd h.2 hq
 rename_i hw
 simp only [hw] at h;exact ⟨fun _ _=>trivial,h⟩
theorem Sk {l n:Nat} {P:Program} {md:Region.Mode} {ops:Array Oper} {Q:Exit→Act→World→Prop} (hd:∀ o ∈ ops.toList,DN o=true) (hq:¬ LetsOut Q) :
 ∀ (fuel:Nat) (L:Array Bool) (a:Act) (w:World),wpAny P md ops Q fuel L a w→wpAnyIn (IU l) n P md ops Q fuel L a w
 |0,_,_,_,h=>h
 |fuel+1,_,_,_,h=>⟨h.1,fun i hi=>wpOpIn_mono (fun a' w' h'=>Sk hd hq fuel _ a' w' h') (Yl hd hq (h.2 i hi))⟩
theorem P2 {l n:Nat} {P:Program} {ops:Array Oper} {Q:Exit→Act→World→Prop}:∀ (rest:List Oper) (a:Act) (w:World),(∀ o ∈ rest,DN o=true)→F7 P ops Q rest a w→wpListIn (IU l) n P ops Q rest a w
 |[],a,w,_,h=>by rw [Gd] at h;exact h
 |o :: rest,a,w,hd,h=>by
  rw [CW] at h;simp only [wpListIn]
  split at h
  ·rename_i hw
   rw [if_pos hw];exact Qw (hd o (by simp)) (Oper.wp_mono (fun a' w' h'=>P2 rest a' w' (fun o ho=>hd o (by simp [ho])) h') h)
  ·rename_i hw
   rw [if_neg hw];exact ⟨fun _ _=>trivial,P2 rest _ _ (fun o ho=>hd o (by simp [ho])) h⟩
def EvI (P:Program) (l n:Nat) (c:Code) (σ:St) (Q:Exit→St→Prop):Prop :=
 ∀ C E X a,Rel C E X σ a→c.wpIn (IU l) n P (fun e a' w'=>∃ E' X' σ',E'.w=w'∧Rel C E' X' σ' a'∧Q e σ') a E.w
section
variable {P:Program} {l n:Nat} {σ:St} {Q:Exit→St→Prop}
theorem Q8 {c:Code} {σ':St} (hw:Wk σ σ') (h:EvI P l n c σ' Q):EvI P l n c σ Q:=by
 intro C E X a hr;obtain ⟨E',X',e,hr'⟩:=hw C E X a hr;rw [← e];exact h C E' X' a hr'
theorem Mm {x y:Code} (h:EvI P l n x σ (GF (fun σ'=>EvI P l n y σ' Q) Q)):EvI P l n (.seq x y) σ Q:=by
 intro C E X a hr;refine wpIn_seq (wpIn_mono (h C E X a hr) ?_);rintro e a' w' ⟨E',X',σ',rfl,h2,h3⟩
 cases e <;> simp only [Exit.then,GF] at h3 ⊢
 case normal=>exact h3 C E' X' a' h2
 all_goals exact ⟨E',X',σ',rfl,h2,h3⟩
theorem Lm {id:Nat} {ops:List Oper} (hd:ops.all DN=true) (h:SeqL P ⟨ops⟩ ops σ (Q .normal)):EvI P l n (.region id ⟨ops⟩ false) σ Q:=by
 intro C E X a hr;exact wpIn_region_list (P2 _ _ _ (fun o ho=>List.all_eq_true.1 hd o ho) (h C E X a hr _ fun E' X' σ' a' h1 h2=>⟨E',X',σ',rfl,h1,h2⟩))
theorem KO (h:Q .normal σ):EvI P l n .skip σ Q:=fun C E X a hr=>wpIn_skip ⟨E,X,σ,rfl,hr,h⟩
theorem TL {id:Nat} (h:Q (.exit id) σ):EvI P l n (.exit id) σ Q:=fun C E X a hr=>wpIn_exit ⟨E,X,σ,rfl,hr,h⟩
theorem V3 (h:Q .ret σ):EvI P l n .ret σ Q:=fun C E X a hr=>wpIn_ret ⟨E,X,σ,rfl,hr,h⟩
theorem EvI.block {id:Nat} {c:Code} (h:EvI P l n c σ (D2 id Q)):EvI P l n (.block id c) σ Q:=by
 intro C E X a hr;refine wpIn_block (wpIn_mono (h C E X a hr) ?_);rintro e a' w' ⟨E',X',σ',rfl,h2,h3⟩
 cases e <;> simp only [Exit.inBlock,D2] at h3 ⊢
 case exit id' =>
  split
  ·rename_i e
   simp only [e,if_true] at h3;exact ⟨E',X',σ',rfl,h2,h3⟩
  rename_i e
  simp only [e,if_false] at h3;exact ⟨E',X',σ',rfl,h2,h3⟩
 all_goals exact ⟨E',X',σ',rfl,h2,h3⟩
theorem TK {c:Operand} {x y:Code} {b:Bool} (hc:σ.ev c= .lit (.bool b)) (ht:b=true→EvI P l n x σ Q) (hf:b=false→EvI P l n y σ Q):EvI P l n (.cond c x y) σ Q:=by
 intro C E X a hr;have hv:=hr.ev c;rw [hc] at hv;simp only [FV] at hv;exact wpIn_cond_split hv (fun e=>ht e C E X a hr) (fun e=>hf e C E X a hr)
theorem TM {s:List (Nat × AV)} {b:List (Nat × Obj)} {nn t e:Nat} {ops:List Oper} {id m:Nat} {L0:Array Bool} (hd:ops.all DN=true) (hlen:ops.length=m) (h4:Array.replicate ops.length false=L0) (hm:P.follows .mixedOrders=true)
 (h:∀ Kt:St→Prop,(∀ σ',Q .normal σ'→Kt σ')→HP P ops m L0 ⟨s,b,nn,t,e⟩ Kt):EvI P l n (.region id ⟨ops⟩ true) ⟨s,b,nn,t,e⟩ Q:=by
 subst h4 hlen;intro C E X a hr;have hrd:=hr.drew
 refine wpIn_mono (wpIn_region_any (Q:=Hg fun a' w'=>∃ E' X' σ',E'.w=w'∧Rel (C.at { E with w:=E.w.drew } ⟨s,b,nn,t,e⟩) E' X' σ' a'∧Q .normal σ') hm (Sk (fun o ho=>List.all_eq_true.1 hd o ho) (fun ⟨a,w,h⟩=>absurd h.1 (by intro h;cases h)) _ _ _ _ (wpAny_of_held (S:=fun w=>∀ b,E.S b→w.heap[b]?= E.w.drew.heap[b]?) _ _ _ _ ?_))) (fun e' a' w' hq=>by
  obtain ⟨rfl,E',X',σ',h1,h2,h3⟩:=hq
  exact ⟨E',X',σ',h1,hrd.unbase h2,h3⟩)
 exact Q2 (E:={ E with w:=E.w.drew }) (fun E' X' σ' a' h1=>hrd.at_keeps h1) (h _ fun _ h=>h) a hrd.rebase
end
end Go.AM
