/-
  Part 23 of the proof: functions walked on the abstract machine.
  Conditions: none.
-/
import Derived.Test.YtaololdbooblkaaGreatDoorX22
set_option linter.unusedSimpArgs false
set_option linter.unusedVariables false
set_option maxRecDepth 100000
set_option maxHeartbeats 2000000
namespace Go.Proofs.YtaololdbooblkaaGreatDoor
open Go Go.AM
theorem bT {p:Prop} [Decidable p] (h:p):bL true=bL (decide p):=by rw [decide_eq_true h]
theorem bF {p:Prop} [Decidable p] (h:¬ p):bL false=bL (decide p):=by rw [decide_eq_false h]
theorem dI {p q:Prop} [Decidable p] [Decidable q] (h:p↔q):bL (decide p)=bL (decide q):=by rw [decide_eq_decide.2 h]
theorem iE {a b:Int} (h:a=b):iL a=iL b:=by rw [h]
def AD (n:Int):List AV:=[iL n]
def Hj (s:List UInt8):List AV:=[sL s]
def pairC:Int × Int→List AV
 |(a,b)=>[iL a,iL b]
theorem OL {k a K A:Int} (h1:0≤k) (h2:k≤K) (h3:0≤a) (h4:a≤A):0≤k * a∧k * a≤K * A:=⟨Int.mul_nonneg h1 h3,Int.mul_le_mul h2 h4 h3 (by omega)⟩
theorem Ft {T:Type} {P:List T→Prop} (h0:P []) (hs:∀ l s,P l→P (l ++ [s])):∀ l,P l:=by
 intro l
 have:∀ n,∀ l:List T,l.length=n→P l:=by
  intro n
  induction n with
  |zero=>intro l h;rw [List.eq_nil_of_length_eq_zero h];exact h0
  |succ n ih =>
   intro l h
   have hne:l≠[]:=by intro e;subst e;simp at h
   rw [← List.dropLast_concat_getLast hne];exact hs _ _ (ih _ (by simp [h]))
 exact this _ l rfl
def Cn {T:Type} (p:T→Bool):List T→Int→Int
 |[],_=> -1
 |x :: l,k=>if p x=true then k else Cn p l (k+1)
theorem CQ {T:Type} (p:T→Bool):∀ (l m:List T) (k:Int),(∀ x ∈ l,p x=false)→Cn p (l ++ m) k=Cn p m (k+l.length)
 |[],m,k,_=>by simp
 |x :: l,m,k,h=>by
  have h1:=h x (by simp);rw [List.cons_append,Cn,h1,if_neg (by simp),CQ p l m _ (fun y hy=>h y (by simp [hy]))]
  congr 1
  simp;omega
theorem Ez {T:Type} (p:T→Bool) (l:List T) (k:Int) (h:∀ x ∈ l,p x=false):Cn p l k= -1:=by
 have:=CQ p l [] k h;rw [List.append_nil] at this;rw [this];rfl
theorem Ed {T:Type} (p:T→Bool):∀ (l:List T) (k:Int),0≤k→(0≤Cn p l k↔∃ x ∈ l,p x=true)
 |[],k,_=>by simp [Cn]
 |x :: l,k,hk=>by
  rw [Cn]
  split
  ·rename_i h;simp [h,hk]
  ·rename_i h;rw [Ed p l (k+1) (by omega)];simp [h]
theorem Lb {T:Type} (p:T→Bool):∀ (l:List T) (k:Int),0≤k→0≤Cn p l k→k≤Cn p l k∧∃ x,l[(Cn p l k - k).toNat]?= some x∧p x=true
 |[],k,_,h=>by simp [Cn] at h
 |x :: l,k,hk,h=>by
  rw [Cn] at h ⊢
  split
  ·rename_i hx;simp [hx]
  ·rename_i hx
   rw [if_neg hx] at h;obtain ⟨h1,y,h2,h3⟩:=Lb p l (k+1) (by omega) h;refine ⟨by omega,y,?_,h3⟩;rw [show (Cn p l (k+1) - k).toNat=(Cn p l (k+1) - (k+1)).toNat+1 by omega]
   simpa using h2
def DF (c:Int):Prop:=(97≤c∧c≤122)∨(65≤c∧c≤90)
def Gf (c:Int):Prop:=48≤c∧c≤57
instance (c):Decidable (DF c):=by unfold DF;infer_instance
instance (c):Decidable (Gf c):=by unfold Gf;infer_instance
def II (c:Int):Prop:=DF c∨Gf c∨c=95
instance (c):Decidable (II c):=by unfold II;infer_instance
theorem Xk {c:Int} (h1:¬ DF c) (h2:¬ Gf c) (h3:¬ c=95):¬ II c:=by rintro (h | h | h) <;> contradiction
def wordN:List UInt8→Nat
 |[]=>0
 |c :: l=>if II (c.toNat:Int) then wordN l+1 else 0
theorem wordN_app:∀ (a b:List UInt8),(∀ x ∈ a,II (x.toNat:Int))→wordN (a ++ b)=a.length+wordN b
 |[],b,_=>by simp
 |x :: a,b,h=>by
  rw [List.cons_append,wordN,if_pos (h x (by simp)),wordN_app a b (fun y hy=>h y (by simp [hy])),List.length_cons];omega
def EH (s:List UInt8):Prop:=0 < s.length∧s.length≤20∧(∀ c,s[0]?= some c→DF (c.toNat:Int))∧wordN s=s.length
instance (s):Decidable (EH s):=by
 unfold EH
 cases h:s[0]? with
 |none=>exact decidable_of_iff (0 < s.length∧s.length≤20∧wordN s=s.length) (by simp)
 |some c=>exact decidable_of_iff (0 < s.length∧s.length≤20∧DF (c.toNat:Int)∧wordN s=s.length) (by simp)
theorem Jl (c:Int):Fun Tryz.prog 200 [.lit (.int .u8 c)] (AI (bL (decide (DF c))) []):=by
 refine Fun.of (nt:=17) (rs:=[.tmp 2]) Tryz.func200 rfl rfl rfl rfl rfl (Ab fun _ k=>Y Ad (Ac k (Ab fun _ k=>Y Aa (Y BR (AS Aa (fun c1=>?_) (fun c1=>?_))))))
 ·refine Y Aa (Y Cb (Y AF (AS Aa (fun c2=>?_) (fun c2=>?_))))
  ·refine Au (Au (Au (Y AF (Y Ad (Ac k (Ai (Ap ?_)))))));exact bT (by unfold DF;omega)
  refine Y Aa (Y BR (AS Aa (fun c3=>?_) (fun c3=>?_)))
  ·refine Y Aa (Y Cb (Y AF (Y AE (Y Ad (Ac k (Ai (Ap ?_)))))));exact dI (by unfold DF;omega)
  omega
 refine Au (Y AE (Y Aa (Y Aa (Y BR (AS Aa (fun c4=>?_) (fun c4=>?_))))))
 ·refine Y Aa (Y Cb (Y AF (Y AE (Y Ad (Ac k (Ai (Ap ?_)))))));exact dI (by unfold DF;omega)
 refine Au (Y AE (Y AE (Y Ad (Ac k (Ai (Ap ?_))))));exact bF (by unfold DF;omega)
theorem Iq (c:Int):Fun Tryz.prog 313 [.lit (.int .u8 c)] (AI (bL (decide (Gf c))) []):=by
 refine Fun.of (nt:=9) (rs:=[.tmp 2]) Tryz.func313 rfl rfl rfl rfl rfl (Ab fun _ k=>Y Ad (Ac k (Ab fun _ k=>Y Aa (Y BR (AS Aa (fun c1=>?_) (fun c1=>?_))))))
 ·refine Y Aa (Y Cb (Y AF (Y Ad (Ac k (Ai (Ap ?_))))));exact dI (by unfold Gf;omega)
 refine Au (Y AE (Y Ad (Ac k (Ai (Ap ?_)))));exact bF (by unfold Gf;omega)
theorem P0 (s:List UInt8) (hlen:s.length≤140737488355328):Fun Tryz.prog 201 [sL s] (AI (iL (wordN s:Int)) []):=by
 refine Fun.of (nt:=29) (rs:=[.tmp 2]) Tryz.func201 rfl rfl rfl rfl rfl (Ab fun _ k=>Y Ad (Ac k (Ab fun _ k=>Y Ad (Ac k (Aj (Ev.block (AC (ι:={q:List UInt8 × List UInt8 // q.1 ++ q.2=s∧∀ x ∈ q.1,II (x.toNat:Int)}) [] [0] (fun ⟨(pre,suf),_⟩=>[(3,iL (pre.length:Int))]) (fun ⟨(pre,suf),_⟩=>[]) (fun ⟨(pre,suf),_⟩=>suf.length) ⟨([],s),rfl,fun x hx=>by simp at hx⟩ (.c .n) AN (Ae) ?_)))))));rintro ⟨⟨pre,suf⟩,hp,hinv⟩ R0 hR0;dsimp only [cA,nA,lC,lN]
 simp only at hp hinv
 have hpl:pre.length+suf.length=s.length:=by rw [← hp,List.length_append]
 rcases suf with _ | ⟨c,suf⟩
 ·rw [List.append_nil] at hp;subst hp;simp only [List.length_nil] at hpl;refine Aj (Ab fun _ k=>Y Aa (Y Aa (Y (CB am_el9 am_un9) (Y As (AS Aa (fun c1=>?_) (fun c1=>?_))))))
  ·omega
  refine Au (Au (Au (Au (Au (Au (Au (Au (Y AE (Ac k (Cw (AA (hR0 _ _ (Ab fun _ k=>Y Aa (Y Ad (Ac k (Ai (Ap ?_)))))))))))))))))
  congr 2;have:=wordN_app pre [] hinv;rw [List.append_nil] at this;rw [this];simp [wordN]
 simp only [lC] at hpl;have hidx:=BM hp;refine Aj (Ab fun _ k=>Y Aa (Y Aa (Y (CB am_el9 am_un9) (Y As (AS Aa (fun c5=>?_) (fun c5=>?_))))))
 ·refine Y Aa (Y Aa (Y (FN am_un9 (hl:=(by exact Ba hidx (by omega)))) (Ay (hF:=Jl _) (h:=AS Aa (fun c6=>?_) (fun c6=>?_)))))
  ·refine Au (Au (Y AF (Y Aa (Au (Au (Y AF (Y AF (Ac k (BI (Am (Ev.block (Ah fun _ k=>Y Aa (Y Ax (Y Ad (Ac k (hR0 _ _ (A4 [] [0] ⟨(pre ++ [c],suf),Bu hp,?_⟩ B9 AN (Ae (he:=(by simp))) (.c .n))))))))))))))))))
   intro x hx;simp only [List.mem_append,List.mem_singleton] at hx;rcases hx with hx | rfl
   ·exact hinv x hx
   ·(unfold II;(left;assumption))
  refine Y Aa (Y Aa (Y (FN am_un9 (hl:=(by exact Ba hidx (by omega)))) (Ay (hF:=Iq _) (h:=Y AE (AS Aa (fun c7=>?_) (fun c7=>?_))))))
  ·refine Au (Au (Y AF (Y AF (Ac k (BI (Am (Ev.block (Ah fun _ k=>Y Aa (Y Ax (Y Ad (Ac k (hR0 _ _ (A4 [] [0] ⟨(pre ++ [c],suf),Bu hp,?_⟩ B9 AN (Ae (he:=(by simp))) (.c .n))))))))))))))
   intro x hx;simp only [List.mem_append,List.mem_singleton] at hx;rcases hx with hx | rfl
   ·exact hinv x hx
   ·(unfold II;(right;left;assumption))
  refine Y Aa (Y Aa (Y (FN am_un9 (hl:=(by exact Ba hidx (by omega)))) (Y Bk (Y AE (Y AF (Ac k (Az (fun c8=>?_) (fun c8=>?_))))))))
  ·refine Am (Ev.block (Ah fun _ k=>Y Aa (Y Ax (Y Ad (Ac k (hR0 _ _ (A4 [] [0] ⟨(pre ++ [c],suf),Bu hp,?_⟩ B9 AN (Ae (he:=(by simp))) (.c .n))))))))
   intro x hx;simp only [List.mem_append,List.mem_singleton] at hx;rcases hx with hx | rfl
   ·exact hinv x hx
   ·(unfold II;omega)
  refine AA (hR0 _ _ (Ab fun _ k=>Y Aa (Y Ad (Ac k (Ai (Ap ?_))))))
  congr 2;rw [← hp,wordN_app pre _ hinv,wordN,if_neg (Xk ‹_› ‹_› ‹_›)];simp
 omega
theorem LA (s:List UInt8) (hlen:s.length≤140737488355328):Fun Tryz.prog 91 [sL s] (AI (bL (decide (EH s))) []):=by
 have hg:∀ h:0 < s.length,s[0]?= some (s[0]'h):=fun h=>List.getElem?_eq_getElem h;have hz:¬ s=[]→0 < s.length:=fun h=>List.length_pos_iff.2 h
 have hI:EH s↔0 < s.length∧s.length≤20∧(∀ h:0 < s.length,DF ((s[0]'h).toNat:Int))∧wordN s=s.length:=by
  unfold EH
  constructor
  ·rintro ⟨h1,h2,h3,h4⟩;exact ⟨h1,h2,fun h=>h3 _ (hg h),h4⟩
  rintro ⟨h1,h2,h3,h4⟩;exact ⟨h1,h2,fun c hc=>by rw [hg h1] at hc;simp only [Option.some.injEq] at hc;rw [← hc];exact h3 h1,h4⟩
 refine Fun.of (nt:=22) (rs:=[.tmp 2]) Tryz.func91 rfl rfl rfl rfl rfl (Ab fun _ k=>Y Ad (Ac k (Ab fun _ k=>Y Aa (Y Kc (Dc Aa (fun c1=>?_) (fun c1=>?_))))))
 ·refine Y Aa (Y (CB am_el9 am_un9) (Y Cb (Y AF (AS Aa (fun c2=>?_) (fun c2=>?_)))))
  ·refine Y Aa (Y (FN am_un9 (hl:=(by exact Ba (hg (by exact hz ‹_›)) (by omega)))) (Ay (hF:=Jl _) (h:=Y AF (AS Aa (fun c3=>?_) (fun c3=>?_)))))
   ·refine Y Aa (Ay (hF:=P0 _ (by omega)) (h:=Y Aa (Y (CB am_el9 am_un9) (Y Bk (Y AF (Y Ad (Ac k (Ai (Ap ?_)))))))));exact dI ⟨fun h=>hI.2 ⟨(by exact hz ‹_›),by omega,fun _=> ‹_›,by omega⟩,fun h=>by have:=(hI.1 h).2.2.2;omega⟩
   refine Au (Au (Bq (Y AE (Y Ad (Ac k (Ai (Ap ?_)))))));exact bF (fun h=>absurd ((hI.1 h).2.2.1 (by exact hz ‹_›)) ‹_›)
  refine Au (Bq (Y AE (Y Aa (Au (Au (Bq (Y AE (Y Ad (Ac k (Ai (Ap ?_)))))))))));exact bF (fun h=>by have:=(hI.1 h).2.1;omega)
 refine Au (Bq (Y AE (Y Aa (Au (Bq (Y AE (Y Aa (Au (Au (Bq (Y AE (Y Ad (Ac k (Ai (Ap ?_)))))))))))))));exact bF (fun h=>by have h1:=(hI.1 h).1;(rw [‹s=[]›] at h1;exact absurd h1 (by decide)))
theorem KJ (c:Int):Fun Tryz.prog 281 [.lit (.int .u8 c)] (AI (bL (decide (DF c))) []):=by
 refine Fun.of (nt:=17) (rs:=[.tmp 2]) Tryz.func281 rfl rfl rfl rfl rfl (Ab fun _ k=>Y Ad (Ac k (Ab fun _ k=>Y Aa (Y BR (AS Aa (fun c1=>?_) (fun c1=>?_))))))
 ·refine Y Aa (Y Cb (Y AF (AS Aa (fun c2=>?_) (fun c2=>?_))))
  ·refine Au (Au (Au (Y AF (Y Ad (Ac k (Ai (Ap ?_)))))));exact bT (by unfold DF;omega)
  refine Y Aa (Y BR (AS Aa (fun c3=>?_) (fun c3=>?_)))
  ·refine Y Aa (Y Cb (Y AF (Y AE (Y Ad (Ac k (Ai (Ap ?_)))))));exact dI (by unfold DF;omega)
  omega
 refine Au (Y AE (Y Aa (Y Aa (Y BR (AS Aa (fun c4=>?_) (fun c4=>?_))))))
 ·refine Y Aa (Y Cb (Y AF (Y AE (Y Ad (Ac k (Ai (Ap ?_)))))));exact dI (by unfold DF;omega)
 refine Au (Y AE (Y AE (Y Ad (Ac k (Ai (Ap ?_))))));exact bF (by unfold DF;omega)
theorem RE (c:Int):Fun Tryz.prog 381 [.lit (.int .u8 c)] (AI (bL (decide (Gf c))) []):=by
 refine Fun.of (nt:=9) (rs:=[.tmp 2]) Tryz.func381 rfl rfl rfl rfl rfl (Ab fun _ k=>Y Ad (Ac k (Ab fun _ k=>Y Aa (Y BR (AS Aa (fun c1=>?_) (fun c1=>?_))))))
 ·refine Y Aa (Y Cb (Y AF (Y Ad (Ac k (Ai (Ap ?_))))));exact dI (by unfold Gf;omega)
 refine Au (Y AE (Y Ad (Ac k (Ai (Ap ?_)))));exact bF (by unfold Gf;omega)
theorem Tu (s:List UInt8) (hlen:s.length≤140737488355328):Fun Tryz.prog 282 [sL s,iL 0] (AI (iL (wordN s:Int)) []):=by
 refine Fun.of (nt:=30) (rs:=[.tmp 4]) Tryz.func282 rfl rfl rfl rfl rfl (Ab fun _ k=>Y Ad (Ac k (Aj (Ev.block (AC (ι:={q:List UInt8 × List UInt8 // q.1 ++ q.2=s∧∀ x ∈ q.1,II (x.toNat:Int)}) [] [0] (fun ⟨(pre,suf),_⟩=>[(1,iL (pre.length:Int))]) (fun ⟨(pre,suf),_⟩=>[]) (fun ⟨(pre,suf),_⟩=>suf.length) ⟨([],s),rfl,fun x hx=>by simp at hx⟩ (.c .n) AN (Ae) ?_)))));rintro ⟨⟨pre,suf⟩,hp,hinv⟩ R0 hR0;dsimp only [cA,nA,lC,lN]
 simp only at hp hinv
 have hpl:pre.length+suf.length=s.length:=by rw [← hp,List.length_append]
 rcases suf with _ | ⟨c,suf⟩
 ·rw [List.append_nil] at hp;subst hp;simp only [List.length_nil] at hpl;refine Aj (Ab fun _ k=>Y Aa (Y Aa (Y (CB am_el9 am_un9) (Y As (AS Aa (fun c1=>?_) (fun c1=>?_))))))
  ·omega
  refine Au (Au (Au (Au (Au (Au (Au (Au (Y AE (Ac k (Cw (AA (hR0 _ _ (Ab fun _ k=>Y Aa (Y Ad (Ac k (Ai (Ap ?_)))))))))))))))))
  congr 2;have:=wordN_app pre [] hinv;rw [List.append_nil] at this;rw [this];simp [wordN]
 simp only [lC] at hpl;have hidx:=BM hp;refine Aj (Ab fun _ k=>Y Aa (Y Aa (Y (CB am_el9 am_un9) (Y As (AS Aa (fun c5=>?_) (fun c5=>?_))))))
 ·refine Y Aa (Y Aa (Y (FN am_un9 (hl:=(by exact Ba hidx (by omega)))) (Ay (hF:=KJ _) (h:=AS Aa (fun c6=>?_) (fun c6=>?_)))))
  ·refine Au (Au (Y AF (Y Aa (Au (Au (Y AF (Y AF (Ac k (BI (Am (Ev.block (Ah fun _ k=>Y Aa (Y Ax (Y Ad (Ac k (hR0 _ _ (A4 [] [0] ⟨(pre ++ [c],suf),Bu hp,?_⟩ B9 AN (Ae (he:=(by simp))) (.c .n))))))))))))))))))
   intro x hx;simp only [List.mem_append,List.mem_singleton] at hx;rcases hx with hx | rfl
   ·exact hinv x hx
   ·(unfold II;(left;assumption))
  refine Y Aa (Y Aa (Y (FN am_un9 (hl:=(by exact Ba hidx (by omega)))) (Ay (hF:=RE _) (h:=Y AE (AS Aa (fun c7=>?_) (fun c7=>?_))))))
  ·refine Au (Au (Y AF (Y AF (Ac k (BI (Am (Ev.block (Ah fun _ k=>Y Aa (Y Ax (Y Ad (Ac k (hR0 _ _ (A4 [] [0] ⟨(pre ++ [c],suf),Bu hp,?_⟩ B9 AN (Ae (he:=(by simp))) (.c .n))))))))))))))
   intro x hx;simp only [List.mem_append,List.mem_singleton] at hx;rcases hx with hx | rfl
   ·exact hinv x hx
   ·(unfold II;(right;left;assumption))
  refine Y Aa (Y Aa (Y (FN am_un9 (hl:=(by exact Ba hidx (by omega)))) (Y Bk (Y AE (Y AF (Ac k (Az (fun c8=>?_) (fun c8=>?_))))))))
  ·refine Am (Ev.block (Ah fun _ k=>Y Aa (Y Ax (Y Ad (Ac k (hR0 _ _ (A4 [] [0] ⟨(pre ++ [c],suf),Bu hp,?_⟩ B9 AN (Ae (he:=(by simp))) (.c .n))))))))
   intro x hx;simp only [List.mem_append,List.mem_singleton] at hx;rcases hx with hx | rfl
   ·exact hinv x hx
   ·(unfold II;omega)
  refine AA (hR0 _ _ (Ab fun _ k=>Y Aa (Y Ad (Ac k (Ai (Ap ?_))))))
  congr 2;rw [← hp,wordN_app pre _ hinv,wordN,if_neg (Xk ‹_› ‹_› ‹_›)];simp
 omega
theorem PY (s:List UInt8) (hlen:s.length≤140737488355328):Fun Tryz.prog 173 [sL s] (AI (bL (decide (EH s))) []):=by
 have hg:∀ h:0 < s.length,s[0]?= some (s[0]'h):=fun h=>List.getElem?_eq_getElem h;have hz:¬ s=[]→0 < s.length:=fun h=>List.length_pos_iff.2 h
 have hI:EH s↔0 < s.length∧s.length≤20∧(∀ h:0 < s.length,DF ((s[0]'h).toNat:Int))∧wordN s=s.length:=by
  unfold EH
  constructor
  ·rintro ⟨h1,h2,h3,h4⟩;exact ⟨h1,h2,fun h=>h3 _ (hg h),h4⟩
  rintro ⟨h1,h2,h3,h4⟩;exact ⟨h1,h2,fun c hc=>by rw [hg h1] at hc;simp only [Option.some.injEq] at hc;rw [← hc];exact h3 h1,h4⟩
 refine Fun.of (nt:=22) (rs:=[.tmp 2]) Tryz.func173 rfl rfl rfl rfl rfl (Ab fun _ k=>Y Ad (Ac k (Aj (Ab fun _ k=>Y Aa (Y (CB am_el9 am_un9) (Y Bk (AS Aa (fun c1=>?_) (fun c1=>?_))))))))
 ·refine Au (Bq (Y AF (Y Aa (Au (Au (Y AF (Ac k (BI (Ab fun _ k=>Y Ad (Ac k (Ai (Ap ?_))))))))))));exact bF (fun h=>by have h1:=(hI.1 h).1;omega)
 refine Y Aa (Y (CB am_el9 am_un9) (Y Be (Y AE (AS Aa (fun c2=>?_) (fun c2=>?_)))))
 ·refine Au (Au (Y AF (Ac k (BI (Ab fun _ k=>Y Ad (Ac k (Ai (Ap ?_))))))));exact bF (fun h=>by have:=(hI.1 h).2.1;omega)
 refine Y Aa (Y (FN am_un9 (hl:=(by exact Ba (hg (by omega)) (by omega)))) (Ay (hF:=KJ _) (h:=Y Bw (Y AE (Ac k (Bh (fun c3=>?_) (fun c3=>?_)))))))
 ·refine Ab fun _ k=>Y Ad (Ac k (Ai (Ap ?_)));exact bF (fun h=>absurd ((hI.1 h).2.2.1 (by omega)) ‹_›)
 refine Am (Ab fun _ k=>Y Aa (Ay (hF:=Tu _ (by omega)) (h:=Y Aa (Y (CB am_el9 am_un9) (Y Bk (Y Ad (Ac k (Ai (Ap ?_)))))))));exact dI ⟨fun h=>hI.2 ⟨(by omega),by omega,fun _=> ‹_›,by omega⟩,fun h=>by have:=(hI.1 h).2.2.2;omega⟩
def sizes:List Int:=[6,8,10,12,16,20,25,32,40]
theorem Q5 {d:Int} (h:d ∈ sizes):6≤d∧d≤40:=by
 simp only [sizes,List.mem_cons,List.not_mem_nil,or_false] at h;omega
def Gj (l:List Int) (v:Int):Int:=Cn (fun x=>decide (v=x)) l 0
theorem JL (l:List Int) (v:Int) (hlen:l.length≤140737488355328):Fun Tryz.prog 82 [.sh 1 (l.map AD),iL v] (AI (iL (Gj l v)) []):=by
 unfold Gj
 refine Fun.of (nt:=19) (rs:=[.tmp 4]) Tryz.func82 rfl rfl rfl rfl rfl (Ab fun _ k=>Y Ad (Ac k (Aj (Ab fun _ k=>Y Aa (Y (A5 am_el24) (Y Aa (Ac k (Ev.block (AC (ι:={q:List Int × List Int // q.1 ++ q.2=l∧∀ x ∈ q.1,decide (v=x)=false}) [] [0,1,7] (fun ⟨(pre,suf),_⟩=>[(8,iL (pre.length:Int))]) (fun ⟨(pre,suf),_⟩=>[]) (fun ⟨(pre,suf),_⟩=>suf.length) ⟨([],l),rfl,fun x hx=>by simp at hx⟩ (.c (.c (.c .n))) AN (Ae) ?_)))))))));rintro ⟨⟨pre,suf⟩,hp,hinv⟩ R0 hR0;dsimp only [cA,nA,lC,lN]
 simp only at hp hinv
 have hpl:=BO hp
 rcases suf with _ | ⟨s,suf⟩
 ·rw [List.append_nil] at hp;subst hp;simp only [List.length_nil] at hpl;refine Ab fun _ k=>Y As (Ac k (AG (fun c1=>?_) (fun c1=>?_)))
  ·omega
  refine AA (hR0 _ _ (Ab fun _ k=>Y Ad (Ac k (Ai (Ap ?_)))))
  congr 2;rw [Ez _ pre 0 hinv]
 simp only [lC] at hpl;have hidx:=BM hp;refine Ab fun _ k=>Y As (Ac k (AG (fun c3=>?_) (fun c3=>?_)))
 ·refine Aj (Ev.block (Ab fun _ k=>Y Aa (Y Ad (Ac k (Ab fun _ k=>Y Aa (Y Aa (Y Aa (Y (AQ am_el24 am_cl3 (hl:=(by exact Ba hidx (by omega)))) (Y (AO am_ag3) (Y Bk (Ac k (Az (fun c4=>?_) (fun c4=>?_)))))))))))))
  ·refine Ab fun _ k=>Y Aa (Y Ad (Ac k (Ai (hR0 _ _ (Ap ?_)))))
   congr 2;rw [← hp,CQ _ pre _ 0 hinv,Cn,if_pos (decide_eq_true ‹_›)];omega
  refine Am (Ah fun _ k=>Y Ax (Y Aa (Ac k (hR0 _ _ (A4 [] [0,1,7] ⟨(pre ++ [s],suf),Bu hp,?_⟩ B9 AN (Ae (he:=(by simp))) (.c (.c (.c .n))))))))
  intro x hx;simp only [List.mem_append,List.mem_singleton] at hx;rcases hx with hx | rfl
  ·exact hinv x hx
  ·exact decide_eq_false ‹_›
 omega
theorem HJ (l:List Int) (v:Int) (hlen:l.length≤140737488355328):Fun Tryz.prog 20 [.sh 1 (l.map AD),iL v] (AI (bL (decide (v ∈ l))) []):=by
 have hd:decide (v ∈ l)=decide (0≤Gj l v):=by
  rw [decide_eq_decide,Gj,Ed _ l 0 (Int.le_refl _)]
  constructor
  ·intro h;exact ⟨v,h,by simp⟩
  rintro ⟨x,hx,h⟩;rw [of_decide_eq_true h];exact hx
 rw [hd];refine Fun.of (nt:=9) (rs:=[.tmp 4]) Tryz.func20 rfl rfl rfl rfl rfl (Ab fun _ k=>Y Ad (Ac k (Ab fun _ k=>Y Aa (Y Aa (Ay (hF:=JL _ _ (by omega)) (h:=Y BR (Y Ad (Ac k (Ai (Ap ?_))))))))));rfl
theorem sizes_fun:Fun Tryz.prog 228 [] (AI (.sh 1 (sizes.map AD)) []):=by
 refine Fun.of (nt:=2) (rs:=[.tmp 0]) Tryz.func228 rfl rfl rfl rfl rfl (Ab fun _ k=>Y Ad (Ac k (Ab fun _ k=>Aq (Bf [[_],[_],[_],[_],[_],[_],[_],[_],[_]] true am_el24 am_ze3 am_cl3) (Y Ad (Ac k (Av (Wk.frzl (f:=AD) [_,_,_,_,_,_,_,_,_] 0 []) (Ai (Ap ?_))))))));rfl
theorem rsizes_fun:Fun Tryz.prog 434 [] (AI (.sh 1 (sizes.map AD)) []):=by
 refine Fun.of (nt:=2) (rs:=[.tmp 0]) Tryz.func434 rfl rfl rfl rfl rfl (Ab fun _ k=>Y Ad (Ac k (Ab fun _ k=>Aq (Bf [[_],[_],[_],[_],[_],[_],[_],[_],[_]] true am_el24 am_ze3 am_cl3) (Y Ad (Ac k (Av (Wk.frzl (f:=AD) [_,_,_,_,_,_,_,_,_] 0 []) (Ai (Ap ?_))))))));rfl
theorem Ju (d:Int):Fun Tryz.prog 296 [iL d] (AI (bL (decide (d ∈ sizes))) []):=by
 refine Fun.of (nt:=6) (rs:=[.tmp 2]) Tryz.func296 rfl rfl rfl rfl rfl (Ab fun _ k=>Y Ad (Ac k (Ab fun _ k=>Ay (hF:=sizes_fun) (h:=Y Aa (Ay (hF:=HJ _ _ (by decide)) (h:=Y Ad (Ac k (Ai (Ap ?_)))))))));rfl
theorem Tq (d:Int):Fun Tryz.prog 371 [iL d] (AI (bL (decide (d ∈ sizes))) []):=by
 generalize hsz:sizes=sz
 have hszl:sz.length=9:=by rw [← hsz];rfl
 refine Fun.of (nt:=18) (rs:=[.tmp 2]) Tryz.func371 rfl rfl rfl rfl rfl (Ab fun _ k=>Y Ad (Ac k (Ab fun _ k=>Ay (hF:=hsz ▸ rsizes_fun) (h:=Y Ad (Ac k (Aj (Ab fun _ k=>Y Ad (Ac k (Ev.block (AC (ι:={q:List Int × List Int // q.1 ++ q.2=sz∧∀ x ∈ q.1,¬ x=d}) [] [0,3] (fun ⟨(pre,suf),_⟩=>[(4,iL (pre.length:Int))]) (fun ⟨(pre,suf),_⟩=>[]) (fun ⟨(pre,suf),_⟩=>suf.length) ⟨([],sz),rfl,fun x hx=>by simp at hx⟩ (.c (.c .n)) AN (Ae) ?_))))))))));rintro ⟨⟨pre,suf⟩,hp,hinv⟩ R0 hR0;dsimp only [cA,nA,lC,lN]
 simp only at hp hinv
 have hpl:=BO hp
 rcases suf with _ | ⟨s,suf⟩
 ·rw [List.append_nil] at hp;subst hp;simp only [List.length_nil] at hpl;refine Aj (Ab fun _ k=>Y Aa (Y Aa (Y (A5 am_el24) (Y As (Ac k (Az (fun c1=>?_) (fun c1=>?_)))))))
  ·omega
  refine AA (hR0 _ _ (Ab fun _ k=>Y Ad (Ac k (Ai (Ap ?_)))));exact bF (fun h=>hinv _ h rfl)
 simp only [lC] at hpl;have hidx:=BM hp;refine Aj (Ab fun _ k=>Y Aa (Y Aa (Y (A5 am_el24) (Y As (Ac k (Az (fun c3=>?_) (fun c3=>?_)))))))
 ·refine Am (Aj (Ev.block (Ab fun _ k=>Y Aa (Y Aa (Y (AQ am_el24 am_cl3 (hl:=(by exact Ba hidx (by omega)))) (Y (AO am_ag3) (Y Aa (Y Bk (Ac k (Az (fun c4=>?_) (fun c4=>?_)))))))))))
  ·refine Ab fun _ k=>Y Ad (Ac k (Ai (hR0 _ _ (Ap ?_))));exact bT (by rw [← hp];simp [*])
  refine Am (Ah fun _ k=>Y Aa (Y Ax (Y Ad (Ac k (hR0 _ _ (A4 [] [0,3] ⟨(pre ++ [s],suf),Bu hp,?_⟩ B9 AN (Ae (he:=(by simp))) (.c (.c .n))))))))
  intro x hx;simp only [List.mem_append,List.mem_singleton] at hx;rcases hx with hx | rfl
  ·exact hinv x hx
  ·assumption
 omega
def Ib (d v:Int):Int:=if d ∈ sizes then v else 0
def Gy (d:Int):Int:=if d ∈ sizes then 0 else 1
theorem RR (d:Int) (g:FuncId) (c0:List AV) (v:Int) (hg:d ∈ sizes→Fun Tryz.prog g [.sadr c0 0] (AI (iL v) [])) :
 Fun Tryz.prog 186 [iL d, .fn (.func g) [] [.sadr c0 0]] (AI (.tup [iL (Ib d v),iL (Gy d)]) []):=by
 refine Fun.of (nt:=11) (rs:=[.tmp 4, .tmp 5]) Tryz.func186 rfl rfl rfl rfl rfl (Ab fun _ k=>Y Ad (Y Ad (Ac k (Aj (Ab fun _ k=>Y Aa (Ay (hF:=Ju _) (h:=Y Bw (Ac k (Bh (fun c1=>?_) (fun c1=>?_))))))))))
 ·refine Ab fun _ k=>Y Ad (Y Ad (Ac k (Ai (Cd ?_))));rw [Ib,Gy,if_neg ‹_›,if_neg ‹_›]
 refine Am (Ab fun _ k=>Y Aa (Ay (hF:=hg ‹_›) (h:=Y Ad (Y Ad (Ac k (Ai (Cd ?_)))))));rw [Ib,Gy,if_pos ‹_›,if_pos ‹_›]
theorem Me (d:Int) (g:FuncId) (c0:List AV) (c1:List AV) (v:Int) (hg:d ∈ sizes→Fun Tryz.prog g [.sadr c0 0, .sadr c1 0] (AI (iL v) [])) :
 Fun Tryz.prog 186 [iL d, .fn (.func g) [] [.sadr c0 0, .sadr c1 0]] (AI (.tup [iL (Ib d v),iL (Gy d)]) []):=by
 refine Fun.of (nt:=11) (rs:=[.tmp 4, .tmp 5]) Tryz.func186 rfl rfl rfl rfl rfl (Ab fun _ k=>Y Ad (Y Ad (Ac k (Aj (Ab fun _ k=>Y Aa (Ay (hF:=Ju _) (h:=Y Bw (Ac k (Bh (fun c1=>?_) (fun c1=>?_))))))))))
 ·refine Ab fun _ k=>Y Ad (Y Ad (Ac k (Ai (Cd ?_))));rw [Ib,Gy,if_neg ‹_›,if_neg ‹_›]
 refine Am (Ab fun _ k=>Y Aa (Ay (hF:=hg ‹_›) (h:=Y Ad (Y Ad (Ac k (Ai (Cd ?_)))))));rw [Ib,Gy,if_pos ‹_›,if_pos ‹_›]
structure Bar where
 mark:List UInt8
 size:Int
 count:Int
 code:Int
 dims:List Int
def Bar.c:Bar→List AV
 |⟨m,s,n,k,d⟩=>[sL m,iL s,iL n,iL k, .sh 1 (d.map AD)]
def legC:Int × Int→List AV
 |(a,b)=>[iL a, .lit (.int .u8 b)]
def Cp (k:Int):List (Int × Int) :=
 if k=0 then [(0,120)] else if k=11 then [(0,120),(1,121)] else if k=21 then [(0,89),(1,120),(2,121)] else if k=26 then [(0,120),(1,121),(2,120)]
 else if k=31 then [(0,120),(1,121),(2,122)] else if k=41 then [(0,120),(1,121),(2,120),(3,89),(4,120)] else if k=51 then [(2,89),(0,120),(1,121),(0,88),(1,89),(2,120)]
 else if k=98 then [(0,122),(1,89),(2,120),(1,121),(0,122)] else []
def CA (k:Int):Int:=if k=0 then 1 else if k=11 then 2 else if k=21 then 3 else if k=26 then 3 else if k=31 then 3 else if k=51 then 3 else if k=98 then 3 else if k=41 then 5 else 0
def L3 (k:Int):Int:=(Cp k).foldl (fun m s=>max m s.1) (-1)
theorem Hq (k:Int):k=0∨k=11∨k=21∨k=26∨k=31∨k=41∨k=51∨k=98∨(k≠0∧k≠11∧k≠21∧k≠26∧k≠31∧k≠41∧k≠51∧k≠98):=by omega
theorem Dh {k:Int} (h:k≠0∧k≠11∧k≠21∧k≠26∧k≠31∧k≠41∧k≠51∧k≠98):Cp k=[]∧CA k=0:=by
 obtain ⟨h1,h2,h3,h4,h5,h6,h7,h8⟩:=h
 constructor
 ·rw [Cp,if_neg h1,if_neg h2,if_neg h3,if_neg h4,if_neg h5,if_neg h6,if_neg h7,if_neg h8]
 rw [CA,if_neg h1,if_neg h2,if_neg h3,if_neg h4,if_neg h5,if_neg h7,if_neg h8,if_neg h6]
theorem H5 (k:Int):L3 k=CA k - 1∧0≤CA k∧CA k≤5∧(Cp k).length≤6:=by
 rcases Hq k with rfl | rfl | rfl | rfl | rfl | rfl | rfl | rfl | h
 iterate 8 decide
 obtain ⟨h1,h2⟩:=Dh h;rw [L3,h1,h2]
 decide
theorem LF (k:Int):∀ s ∈ Cp k,0≤s.1∧s.1 < CA k:=by
 rcases Hq k with rfl | rfl | rfl | rfl | rfl | rfl | rfl | rfl | h
 iterate 8 decide
 rw [(Dh h).1];intro s hs;cases hs
theorem Lc (k:Int):Fun Tryz.prog 321 [iL k] (AI (.sh 2 ((Cp k).map legC)) []):=by
 refine Fun.of (nt:=56) (rs:=[.tmp 2]) Tryz.func321 rfl rfl rfl rfl rfl (Ab fun _ z=>Y Ad (Ac z (Aj (Ab fun _ z=>Y Aa (Ac z (Ev.block (Ab fun _ z=>Y Bk (Y Ad (Ac z (Az (fun c1=>?_) (fun c1=>?_)))))))))))
 ·refine Ab fun _ z=>Y (Bg _ am_ze423 am_pl423) (Aq (Bf [[_,_]] true am_el420 am_ze423 am_cl423) (Y Ad (Ac z (Av (Wk.frzl (f:=legC) [(⟨_,_⟩:Int × Int)] 2 []) (Ai (Ap ?_))))))
  (obtain rfl:k=0:=by assumption
   rfl)
 refine Ab fun _ z=>Y Bk (Y Ad (Ac z (Az (fun c2=>?_) (fun c2=>?_))))
 ·refine Ab fun _ z=>Y (Bg _ am_ze423 am_pl423) (Y (Bg _ am_ze423 am_pl423) (Aq (Bf [[_,_],[_,_]] true am_el420 am_ze423 am_cl423) (Y Ad (Ac z (Av (Wk.frzl (f:=legC) [(⟨_,_⟩:Int × Int),(⟨_,_⟩:Int × Int)] 2 []) (Ai (Ap ?_)))))));subst k;rfl
 refine Ab fun _ z=>Y Bk (Y Ad (Ac z (Az (fun c3=>?_) (fun c3=>?_))))
 ·refine Ab fun _ z=>Y (Bg _ am_ze423 am_pl423) (Y (Bg _ am_ze423 am_pl423) (Y (Bg _ am_ze423 am_pl423) (Aq (Bf [[_,_],[_,_],[_,_]] true am_el420 am_ze423 am_cl423) (Y Ad (Ac z (Av (Wk.frzl (f:=legC) [(⟨_,_⟩:Int × Int),(⟨_,_⟩:Int × Int),(⟨_,_⟩:Int × Int)] 2 []) (Ai (Ap ?_))))))));subst k;rfl
 refine Ab fun _ z=>Y Bk (Y Ad (Ac z (Az (fun c4=>?_) (fun c4=>?_))))
 ·refine Ab fun _ z=>Y (Bg _ am_ze423 am_pl423) (Y (Bg _ am_ze423 am_pl423) (Y (Bg _ am_ze423 am_pl423) (Aq (Bf [[_,_],[_,_],[_,_]] true am_el420 am_ze423 am_cl423) (Y Ad (Ac z (Av (Wk.frzl (f:=legC) [(⟨_,_⟩:Int × Int),(⟨_,_⟩:Int × Int),(⟨_,_⟩:Int × Int)] 2 []) (Ai (Ap ?_))))))));subst k;rfl
 refine Ab fun _ z=>Y Bk (Y Ad (Ac z (Az (fun c5=>?_) (fun c5=>?_))))
 ·refine Ab fun _ z=>Y (Bg _ am_ze423 am_pl423) (Y (Bg _ am_ze423 am_pl423) (Y (Bg _ am_ze423 am_pl423) (Aq (Bf [[_,_],[_,_],[_,_]] true am_el420 am_ze423 am_cl423) (Y Ad (Ac z (Av (Wk.frzl (f:=legC) [(⟨_,_⟩:Int × Int),(⟨_,_⟩:Int × Int),(⟨_,_⟩:Int × Int)] 2 []) (Ai (Ap ?_))))))));subst k;rfl
 refine Ab fun _ z=>Y Bk (Y Ad (Ac z (Az (fun c6=>?_) (fun c6=>?_))))
 ·refine Ab fun _ z=>Y (Bg _ am_ze423 am_pl423) (Y (Bg _ am_ze423 am_pl423) (Y (Bg _ am_ze423 am_pl423) (Y (Bg _ am_ze423 am_pl423) (Y (Bg _ am_ze423 am_pl423) (Aq (Bf [[_,_],[_,_],[_,_],[_,_],[_,_]] true am_el420 am_ze423 am_cl423) (Y Ad (Ac z (Av (Wk.frzl (f:=legC) [(⟨_,_⟩:Int × Int),(⟨_,_⟩:Int × Int),(⟨_,_⟩:Int × Int),(⟨_,_⟩:Int × Int),(⟨_,_⟩:Int × Int)] 2 []) (Ai (Ap ?_))))))))));subst k;rfl
 refine Ab fun _ z=>Y Bk (Y Ad (Ac z (Az (fun c7=>?_) (fun c7=>?_))))
 ·refine Ab fun _ z=>Y (Bg _ am_ze423 am_pl423) (Y (Bg _ am_ze423 am_pl423) (Y (Bg _ am_ze423 am_pl423) (Y (Bg _ am_ze423 am_pl423) (Y (Bg _ am_ze423 am_pl423) (Y (Bg _ am_ze423 am_pl423) (Aq (Bf [[_,_],[_,_],[_,_],[_,_],[_,_],[_,_]] true am_el420 am_ze423 am_cl423) (Y Ad (Ac z (Av (Wk.frzl (f:=legC) [(⟨_,_⟩:Int × Int),(⟨_,_⟩:Int × Int),(⟨_,_⟩:Int × Int),(⟨_,_⟩:Int × Int),(⟨_,_⟩:Int × Int),(⟨_,_⟩:Int × Int)] 2 []) (Ai (Ap ?_)))))))))));subst k;rfl
 refine Ab fun _ z=>Y Bk (Y Ad (Ac z (Az (fun c8=>?_) (fun c8=>?_))))
 ·refine Ab fun _ z=>Y (Bg _ am_ze423 am_pl423) (Y (Bg _ am_ze423 am_pl423) (Y (Bg _ am_ze423 am_pl423) (Y (Bg _ am_ze423 am_pl423) (Y (Bg _ am_ze423 am_pl423) (Aq (Bf [[_,_],[_,_],[_,_],[_,_],[_,_]] true am_el420 am_ze423 am_cl423) (Y Ad (Ac z (Av (Wk.frzl (f:=legC) [(⟨_,_⟩:Int × Int),(⟨_,_⟩:Int × Int),(⟨_,_⟩:Int × Int),(⟨_,_⟩:Int × Int),(⟨_,_⟩:Int × Int)] 2 []) (Ai (Ap ?_))))))))));subst k;rfl
 refine Am (Ab fun _ z=>Y Ad (Ac z (Av (Wk.nsh legC 2 2) (Ai (Ap ?_)))))
 rw [(Dh ⟨‹_›, ‹_›, ‹_›, ‹_›, ‹_›, ‹_›, ‹_›, ‹_›⟩).1] <;> rfl
def L4 (k:Int):Int:=if CA k=0 then 0 else CA k
def Jf (k:Int):Int:=if CA k=0 then 11 else 0
theorem Ub (k:Int):Fun Tryz.prog 367 [iL k] (AI (.tup [iL (L4 k),iL (Jf k)]) []):=by
 obtain ⟨d1,d2,d3,d4⟩:=H5 k;refine Fun.of (nt:=23) (rs:=[.tmp 2, .tmp 3]) Tryz.func367 rfl rfl rfl rfl rfl (Ab fun _ z=>Y Ad (Y Ad (Ac z (Ab fun _ z=>Y Ad (Ac z (Aj (Ab fun _ z=>Y Aa (Ay (hF:=Lc _) (h:=Y (A5 am_el420) (Y Aa (Ac z (Ev.block (AC (ι:={p:List (Int × Int) × List (Int × Int) // p.1 ++ p.2=(Cp k)∧True}) [] [8,9] (fun ⟨(pre,suf),_⟩=>[(10,iL (pre.length:Int)),(4,iL (pre.foldl (fun m s=>max m s.1) (-1)))]) (fun ⟨(pre,suf),_⟩=>[]) (fun ⟨(pre,suf),_⟩=>suf.length) ⟨([],(Cp k)),rfl,trivial⟩ (.c (.c .n)) AN (Ae (h:=(Ae))) ?_)))))))))))));rintro ⟨⟨pre,suf⟩,hp,hinv⟩ R0 hR0;dsimp only [cA,nA,lC,lN]
 simp only at hp hinv
 have hpl:=BO hp
 rcases suf with _ | ⟨s,suf⟩
 ·rw [List.append_nil] at hp;simp only [lN] at hpl;refine Ab fun _ z=>Y As (Ac z (AG (fun c1=>?_) (fun c1=>?_)))
  ·omega
  refine AA (hR0 _ _ (Aj ?_))
  have hd:L3 k=pre.foldl (fun m s=>max m s.1) (-1):=by rw [L3,hp]
  rw [← hd];refine Ab fun _ z=>Y Aa (Y As (Ac z (Az (fun c2=>?_) (fun c2=>?_))))
  ·refine Ab fun _ z=>Y Ad (Y Ad (Ac z (Ai (Cd ?_))));rw [L4,Jf,if_pos (by omega),if_pos (by omega)]
  refine Am (Ab fun _ z=>Y Aa (Y Ax (Y Ad (Y Ad (Ac z (Ai (Cd ?_)))))));rw [L4,Jf,if_neg (by omega),if_neg (by omega),show L3 k+1=CA k by omega]
 simp only [lC] at hpl;have hidx:=BM hp;refine Ab fun _ z=>Y As (Ac z (AG (fun c3=>?_) (fun c3=>?_)))
 ·refine Aj (Ev.block (Ab fun _ z=>Y (AQ am_el420 am_cl423 (hl:=(by exact Ba hidx (by omega)))) (Y (Bv _ am_ag423 am_cl423) (Aq (AT am_ze423) (Ar _ true [] am_in423 am_cl423 (h:=Ac z (Ah fun _ z=>Y Aa (Y (An 0 am_fi423_0 am_cl3) (Y (Ao am_ag3) (Y DE (Y Ad (Ac z ?_))))))))))));show Ev _ _ _ _;refine Ah fun _ z=>Y Ax (Y Aa (Ac z (hR0 _ _ (A4 [] [8,9] ⟨(pre ++ [s],suf),Bu hp,trivial⟩ B9 AN (Ae (he:=(by congr 2;simp)) (h:=(Ae (he:=(by congr 2 <;> simp [List.foldl_append]))))) (.c (.c .n))))))
 omega
def BF (l:List Int):Int:=l.foldl (·+·) 0
theorem sumI_go:∀ (l:List Int) (a:Int),l.foldl (·+·) a=a+BF l
 |[],a=>by simp [BF]
 |x :: l,a=>by
  rw [BF,List.foldl_cons,List.foldl_cons,sumI_go l,sumI_go l (0+x)];omega
theorem Fu (a b:List Int):BF (a ++ b)=BF a+BF b:=by rw [BF,List.foldl_append,sumI_go];rfl
theorem Kj (x:Int) (l:List Int):BF (x :: l)=x+BF l:=by rw [BF,List.foldl_cons,sumI_go];omega
theorem sumI_nn:∀ l:List Int,(∀ n ∈ l,1≤n)→0≤BF l
 |[],_=>Int.le_refl _
 |x :: l,h=>by
  have:=h x (by simp);have:=sumI_nn l (fun n hn=>h n (by simp [hn]));rw [Kj];omega
def Gh (l:List Int):Prop:=(∀ n ∈ l,1≤n)∧BF l≤262144
instance (l):Decidable (Gh l):=by unfold Gh;infer_instance
theorem HL {pre suf l:List Int} {s:Int} (hp:pre ++ s :: suf=l) (h:Gh l):1≤s∧s≤262144 - BF pre∧BF pre+s+BF suf≤262144∧0≤BF suf∧0≤BF pre:=by
 obtain ⟨h1,h2⟩:=h;rw [← hp,Fu,Kj] at h2;have:=sumI_nn suf (fun n hn=>h1 n (by rw [← hp];simp [hn]));have:=sumI_nn pre (fun n hn=>h1 n (by rw [← hp];simp [hn]));have:=h1 s (by rw [← hp];simp);omega
theorem VK {l:List Int} (h:Gh l) {n:Int} (hn:n ∈ l):1≤n∧n≤262144:=by
 obtain ⟨a,b,rfl⟩:=List.append_of_mem hn;have:=HL rfl h;omega
def BU (b:Bar):Prop:=EH b.mark∧b.size ∈ sizes∧1≤b.count∧b.count≤1000∧CA b.code≠0∧(b.dims.length:Int)=CA b.code∧Gh b.dims
instance (b):Decidable (BU b):=by unfold BU;infer_instance
def Bar.w (b:Bar):Prop:=b.mark.length≤140737488355328∧b.dims.length≤140737488355328
theorem Sw {k:Int}:Jf k=0↔CA k≠0:=by
 unfold Jf
 split <;> simp [*]
theorem Kl (b:Bar) (hw:b.w):Fun Tryz.prog 259 [.agg b.c] (AI (bL (decide (BU b))) []):=by
 obtain ⟨hw1,hw2⟩:=hw;have he:=@Sw b.code;have hv:Jf b.code=0→L4 b.code=CA b.code:=fun h=>if_neg (he.1 h)
 have hok:BU b↔EH b.mark∧b.size ∈ sizes∧1≤b.count∧b.count≤1000∧Jf b.code=0∧(b.dims.length:Int)=L4 b.code∧Gh b.dims:=by
  unfold BU
  constructor
  ·rintro ⟨h1,h2,h3,h4,h5,h6,h7⟩;have h8:=he.2 h5;exact ⟨h1,h2,h3,h4,h8,by rw [hv h8];exact h6,h7⟩
  rintro ⟨h1,h2,h3,h4,h5,h6,h7⟩;exact ⟨h1,h2,h3,h4,he.1 h5,by rw [← hv h5];exact h6,h7⟩
 refine Fun.of (nt:=63) (rs:=[.tmp 2]) Tryz.func259 rfl rfl rfl rfl rfl (Ab fun _ z=>Aq (Bo _ true) (Y Ad (Ac z (Ab fun _ z=>Y (An 3 am_fi168_3 am_cl3) (Y (Ao am_ag3) (Ay (hF:=Ub _) (h:=Y Aa (Y AH (Y AH (Y Ad (Y Ad (Ac z (Aj (Ab fun _ z=>Y Aa (Y Bn (Dc Aa (fun c1=>?_) (fun c1=>?_)))))))))))))))))
 ·refine Au (Au (Y AF (Y Aa (Au (Au (Y AF (Y Aa (Au (Bq (Y AF (Y Aa (Au (Bq (Y AF (Y Aa (Au (Au (Bq (Y AF (Ac z (BI (Ab fun _ z=>Y Ad (Ac z (Ai (Ap ?_)))))))))))))))))))))))));exact bF (fun h=>by have h1:=(hok.1 h).2.2.1;have h2:=(hok.1 h).2.2.2.1;have h3:=(hok.1 h).2.2.2.2.1;have h4:=(hok.1 h).2.2.2.2.2.1;omega)
 refine Y (An 0 am_fi168_0 am_cl9) (Y (Ao am_ag9) (Ay (hF:=LA _ (by omega)) (h:=Y Bw (Y AE (Dc Aa (fun c2=>?_) (fun c2=>?_))))))
 ·refine Au (Au (Y AF (Y Aa (Au (Bq (Y AF (Y Aa (Au (Bq (Y AF (Y Aa (Au (Au (Bq (Y AF (Ac z (BI (Ab fun _ z=>Y Ad (Ac z (Ai (Ap ?_)))))))))))))))))))));exact bF (fun h=>absurd (hok.1 h).1 ‹_›)
 refine Y (An 1 am_fi168_1 am_cl3) (Y (Ao am_ag3) (Ay (hF:=Ju _) (h:=Y Bw (Y AE (Dc Aa (fun c3=>?_) (fun c3=>?_))))))
 ·refine Au (Bq (Y AF (Y Aa (Au (Bq (Y AF (Y Aa (Au (Au (Bq (Y AF (Ac z (BI (Ab fun _ z=>Y Ad (Ac z (Ai (Ap ?_)))))))))))))))));exact bF (fun h=>absurd (hok.1 h).2.1 ‹_›)
 refine Y (An 2 am_fi168_2 am_cl3) (Y (Ao am_ag3) (Y As (Y AE (AS Aa (fun c4=>?_) (fun c4=>?_)))))
 ·refine Au (Bq (Y AF (Y Aa (Au (Au (Bq (Y AF (Ac z (BI (Ab fun _ z=>Y Ad (Ac z (Ai (Ap ?_)))))))))))));exact bF (fun h=>by have h1:=(hok.1 h).2.2.1;have h2:=(hok.1 h).2.2.2.1;have h3:=(hok.1 h).2.2.2.2.1;have h4:=(hok.1 h).2.2.2.2.2.1;omega)
 refine Y (An 2 am_fi168_2 am_cl3) (Y (Ao am_ag3) (Y Be (Y AE (AS Aa (fun c5=>?_) (fun c5=>?_)))))
 ·refine Au (Au (Bq (Y AF (Ac z (BI (Ab fun _ z=>Y Ad (Ac z (Ai (Ap ?_)))))))));exact bF (fun h=>by have h1:=(hok.1 h).2.2.1;have h2:=(hok.1 h).2.2.2.1;have h3:=(hok.1 h).2.2.2.2.1;have h4:=(hok.1 h).2.2.2.2.2.1;omega)
 refine Y (An 4 am_fi168_4 am_cl24) (Y (Ao am_ag24) (Y (A5 am_el24) (Y Aa (Y Bn (Y AE (Ac z (Bh (fun c6=>?_) (fun c6=>?_))))))))
 ·refine Ab fun _ z=>Y Ad (Ac z (Ai (Ap ?_)));exact bF (fun h=>by have h1:=(hok.1 h).2.2.1;have h2:=(hok.1 h).2.2.2.1;have h3:=(hok.1 h).2.2.2.2.1;have h4:=(hok.1 h).2.2.2.2.2.1;omega)
 refine Am (Ab fun _ z=>Y Ad (Ac z (Aj (Ab fun _ z=>Y (An 4 am_fi168_4 am_cl24) (Y (Ao am_ag24) (Y (A5 am_el24) (Y Aa (Ac z (Ev.block (AC (ι:={q:List Int × List Int // q.1 ++ q.2=b.dims∧Gh q.1}) [] [46,47] (fun ⟨(pre,suf),_⟩=>[(48,iL (pre.length:Int)),(5,iL (262144 - BF pre))]) (fun ⟨(pre,suf),_⟩=>[]) (fun ⟨(pre,suf),_⟩=>suf.length) ⟨([],b.dims),rfl,(show Gh [] by decide)⟩ (.c (.c .n)) AN (Ae (h:=(Ae))) ?_))))))))));rintro ⟨⟨pre,suf⟩,hp,hinv⟩ R0 hR0;dsimp only [cA,nA,lC,lN]
 simp only at hp hinv
 have hpl:=BO hp
 rcases suf with _ | ⟨s,suf⟩
 ·rw [List.append_nil] at hp;simp only [lN] at hpl;refine Ab fun _ z=>Y As (Ac z (AG (fun c7=>?_) (fun c7=>?_)))
  ·omega
  refine AA (hR0 _ _ (Ab fun _ z=>Y Ad (Ac z (Ai (Ap ?_)))));exact bT (hok.2 ⟨‹_›, ‹_›,by omega,by omega,by omega,by omega,by rw [← hp];exact hinv⟩)
 simp only [lC] at hpl;have hidx:=BM hp;have hnn:=sumI_nn pre hinv.1;have hle:=hinv.2;refine Ab fun _ z=>Y As (Ac z (AG (fun c10=>?_) (fun c10=>?_)))
 ·refine Aj (Ev.block (Ab fun _ z=>Y (AQ am_el24 am_cl3 (hl:=(by exact Ba hidx (by omega)))) (Y (AO am_ag3) (Y Ad (Ac z (Aj (Ab fun _ z=>Y Aa (Y As (AS Aa (fun c11=>?_) (fun c11=>?_))))))))))
  ·refine Au (Bq (Y AF (Ac z (BI (Ab fun _ z=>Y Ad (Ac z (Ai (hR0 _ _ (Ap ?_)))))))));exact bF (fun h=>by have h1:=HL hp (hok.1 h).2.2.2.2.2.2;omega)
  refine Y Aa (Y Aa (Y Be (Y AE (Ac z (Az (fun c12=>?_) (fun c12=>?_))))))
  ·refine Ab fun _ z=>Y Ad (Ac z (Ai (hR0 _ _ (Ap ?_))));exact bF (fun h=>by have h1:=HL hp (hok.1 h).2.2.2.2.2.2;omega)
  refine Am (Ah fun _ z=>Y Aa (Y Aa (Y BK (Y Ad (Ac z ?_)))));show Ev _ _ _ _;refine Ah fun _ z=>Y Ax (Y Aa (Ac z (hR0 _ _ (A4 [] [46,47] ⟨(pre ++ [s],suf),Bu hp,?_⟩ B9 AN (Ae (he:=(by congr 2;simp)) (h:=(Ae (he:=(by congr 2;rw [Fu,show BF [s]=s by simp [BF]];omega))))) (.c (.c .n))))));refine ⟨fun n hn=>?_,by rw [Fu,show BF [s]=s by simp [BF]];omega⟩;simp only [List.mem_append,List.mem_singleton] at hn
  rcases hn with hn | rfl
  ·exact hinv.1 n hn
  ·omega
 omega
theorem Nt (k:Int):Fun Tryz.prog 372 [iL k] (AI (iL (CA k)) []):=by
 refine Fun.of (nt:=16) (rs:=[.tmp 2]) Tryz.func372 rfl rfl rfl rfl rfl (Ab fun _ z=>Y Ad (Ac z (Aj (Ab fun _ z=>Y Aa (Ac z (Ev.block (Ab fun _ z=>Y Bk (Y Ad (Ac z (Az (fun c1=>?_) (fun c1=>?_)))))))))))
 ·refine Ab fun _ z=>Y Ad (Ac z (Ai (Ap ?_)));subst k;rfl
 refine Ab fun _ z=>Y Bk (Y Ad (Ac z (Az (fun c2=>?_) (fun c2=>?_))))
 ·refine Ab fun _ z=>Y Ad (Ac z (Ai (Ap ?_)));subst k;rfl
 refine Aj (Ab fun _ z=>Y Bk (Y Ad (Ac z (Az (fun c3=>?_) (fun c3=>?_)))))
 ·refine Am (Az (fun _=>?_) (fun c=>absurd c3 c));refine Ab fun _ z=>Y Ad (Ac z (Ai (Ap ?_)));subst k;rfl
 refine Ab fun _ z=>Y Bk (Y Ad (Ac z (Az (fun c4=>?_) (fun c4=>?_))))
 ·refine Am (Az (fun _=>?_) (fun c=>absurd c4 c));refine Ab fun _ z=>Y Ad (Ac z (Ai (Ap ?_)));subst k;rfl
 refine Ab fun _ z=>Y Bk (Y Ad (Ac z (Az (fun c5=>?_) (fun c5=>?_))))
 ·refine Am (Az (fun _=>?_) (fun c=>absurd c5 c));refine Ab fun _ z=>Y Ad (Ac z (Ai (Ap ?_)));subst k;rfl
 refine Ab fun _ z=>Y Bk (Y Ad (Ac z (Az (fun c6=>?_) (fun c6=>?_))))
 ·refine Am (Az (fun _=>?_) (fun c=>absurd c6 c));refine Ab fun _ z=>Y Ad (Ac z (Ai (Ap ?_)));subst k;rfl
 refine Ah fun _ z=>Y Bk (Y Ad (Ac z ?_));show Ev _ _ _ _;refine Az (fun c7=>?_) (fun c7=>?_)
 ·refine Ab fun _ z=>Y Ad (Ac z (Ai (Ap ?_)));subst k;rfl
 refine Ab fun _ z=>Y Bk (Y Ad (Ac z (Az (fun c8=>?_) (fun c8=>?_))))
 ·refine Ab fun _ z=>Y Ad (Ac z (Ai (Ap ?_)));subst k;rfl
 refine Am (Ab fun _ z=>Y Ad (Ac z (Ai (Ap ?_))))
 rw [(Dh ⟨‹_›, ‹_›, ‹_›, ‹_›, ‹_›, ‹_›, ‹_›, ‹_›⟩).2] <;> rfl
theorem RO (b:Bar) (hw:b.w):Fun Tryz.prog 267 [.agg b.c] (AI (bL (decide (BU b))) []):=by
 obtain ⟨hw1,hw2⟩:=hw;have hok:BU b↔EH b.mark∧b.size ∈ sizes∧1≤b.count∧b.count≤1000∧CA b.code≠0∧(b.dims.length:Int)=CA b.code∧Gh b.dims:=Iff.rfl;obtain ⟨d1,d2,d3,d4⟩:=H5 b.code;refine Fun.of (nt:=70) (rs:=[.tmp 2]) Tryz.func267 rfl rfl rfl rfl rfl (Ab fun _ z=>Aq (Bo _ true) (Y Ad (Ac z (Aj (BW (tbs [(0,0),(1,1),(2,3),(3,7),(4,15),(5,31),(6,63),(7,127),(8,255),(9,511),(10,1023),(11,2047),(12,4095),(13,8191),(14,16383),(15,32767),(16,65535),(17,131071),(18,262143),(19,524287),(20,1048575),(21,2097151),(22,4194303),(23,8388607),(24,16777215),(25,33554431),(26,67108863),(27,134217727),(28,268435455),(29,536870911),(27,134217727),(31,1207959551),(32,3355443199),(33,8589934591),(34,17179869183)]) 35 fun _ z=>Ak (An 0 am_fi168_0 am_cl9) (Ak (Ao am_ag9) (Cc (hF:=PY _ (by omega)) (h:=Ak Bw (QG Aa (fun c1=>?_) (fun c1=>?_))))))))))
 ·refine Bm (Bm (Bm (Bm (Ak AF (Ak Aa (Bm (Bm (Bm (Ak AF (Ak Aa (Bm (Bm (Bm (Ak AF (Ak Aa (Bm (Bm (Bm (Bm (Ak AF (Ak Aa (Bm (Bm (Bm (Bm (Bm (Bm (Bm (Ak AF (B3 [_] (h:=Ac z (BI (Ab fun _ z=>Y Ad (Ac z (Ai (Ap ?_))))))))))))))))))))))))))))))))))));exact bF (fun h=>absurd (hok.1 h).1 ‹_›)
 refine Ak (An 1 am_fi168_1 am_cl3) (Ak (Ao am_ag3) (Cc (hF:=Tq _) (h:=Ak Bw (Ak AE (QG Aa (fun c2=>?_) (fun c2=>?_))))))
 ·refine Bm (Bm (Bm (Ak AF (Ak Aa (Bm (Bm (Bm (Ak AF (Ak Aa (Bm (Bm (Bm (Bm (Ak AF (Ak Aa (Bm (Bm (Bm (Bm (Bm (Bm (Bm (Ak AF (B3 [_] (h:=Ac z (BI (Ab fun _ z=>Y Ad (Ac z (Ai (Ap ?_))))))))))))))))))))))))))))));exact bF (fun h=>absurd (hok.1 h).2.1 ‹_›)
 refine Ak (An 2 am_fi168_2 am_cl3) (Ak (Ao am_ag3) (Ak As (Ak AE (Mq Aa (fun c3=>?_) (fun c3=>?_)))))
 ·refine Bm (Bm (Bm (Ak AF (Ak Aa (Bm (Bm (Bm (Bm (Ak AF (Ak Aa (Bm (Bm (Bm (Bm (Bm (Bm (Bm (Ak AF (B3 [_] (h:=Ac z (BI (Ab fun _ z=>Y Ad (Ac z (Ai (Ap ?_)))))))))))))))))))))))));exact bF (fun h=>by have h1:=(hok.1 h).2.2.1;have h2:=(hok.1 h).2.2.2.1;have h3:=(hok.1 h).2.2.2.2.1;have h4:=(hok.1 h).2.2.2.2.2.1;omega)
 refine Ak (An 2 am_fi168_2 am_cl3) (Ak (Ao am_ag3) (Ak Be (Ak AE (Mq Aa (fun c4=>?_) (fun c4=>?_)))))
 ·refine Bm (Bm (Bm (Bm (Ak AF (Ak Aa (Bm (Bm (Bm (Bm (Bm (Bm (Bm (Ak AF (B3 [_] (h:=Ac z (BI (Ab fun _ z=>Y Ad (Ac z (Ai (Ap ?_))))))))))))))))))));exact bF (fun h=>by have h1:=(hok.1 h).2.2.1;have h2:=(hok.1 h).2.2.2.1;have h3:=(hok.1 h).2.2.2.2.1;have h4:=(hok.1 h).2.2.2.2.2.1;omega)
 refine Ak (An 3 am_fi168_3 am_cl3) (Ak (Ao am_ag3) (Cc (hF:=Nt _) (h:=Ak Bk (Ak AE (Mq Aa (fun c5=>?_) (fun c5=>?_))))))
 ·refine Bm (Bm (Bm (Bm (Bm (Bm (Bm (Ak AF (B3 [_] (h:=Ac z (BI (Ab fun _ z=>Y Ad (Ac z (Ai (Ap ?_))))))))))))));exact bF (fun h=>by have h1:=(hok.1 h).2.2.1;have h2:=(hok.1 h).2.2.2.1;have h3:=(hok.1 h).2.2.2.2.1;have h4:=(hok.1 h).2.2.2.2.2.1;omega)
 refine Ak (An 4 am_fi168_4 am_cl24) (Ak (Ao am_ag24) (Ak (A5 am_el24) (Ak (An 3 am_fi168_3 am_cl3) (Ak (Ao am_ag3) (Cc (hF:=Nt _) (h:=Ak Bn (Ak AE (B3 [_] (h:=Ac z (Bh (fun c6=>?_) (fun c6=>?_)))))))))))
 ·refine Ab fun _ z=>Y Ad (Ac z (Ai (Ap ?_)));exact bF (fun h=>by have h1:=(hok.1 h).2.2.1;have h2:=(hok.1 h).2.2.2.1;have h3:=(hok.1 h).2.2.2.2.1;have h4:=(hok.1 h).2.2.2.2.2.1;omega)
 refine Am (Ab fun _ z=>Y Ad (Ac z (Aj (Ab fun _ z=>Y Ad (Ac z (Ev.block (AC (ι:={q:List Int × List Int // q.1 ++ q.2=b.dims∧(∀ n ∈ q.1,1≤n)∧BF q.1≤1048576 * q.1.length}) [0] [1] (fun ⟨(pre,suf),_⟩=>[(4,iL (pre.length:Int)),(3,iL (BF pre))]) (fun ⟨(pre,suf),_⟩=>[(0,⟨false,168,5,[[sL (b.mark),iL (b.size),iL (b.count),iL (b.code), .sh 1 ((b.dims).map AD)]],true⟩)]) (fun ⟨(pre,suf),_⟩=>suf.length) ⟨([],b.dims),rfl,fun n hn=>by simp at hn,(show BF []≤1048576 * (([]:List Int).length:Int) by decide)⟩ (.c .n) (Ag) (Ae (h:=(Ae))) ?_)))))));rintro ⟨⟨pre,suf⟩,hp,hinv⟩ R0 hR0;dsimp only [cA,nA,lC,lN]
 simp only at hp hinv
 have hpl:=BO hp
 rcases suf with _ | ⟨s,suf⟩
 ·rw [List.append_nil] at hp;simp only [lN] at hpl;refine Aj (Ab fun _ z=>Y Aa (Y (An 4 am_fi168_4 am_cl24) (Y (Ao am_ag24) (Y (A5 am_el24) (Y As (Ac z (Az (fun c7=>?_) (fun c7=>?_))))))))
  ·omega
  refine AA (hR0 _ _ (Ab fun _ z=>Y Aa (Y Cb (Y Ad (Ac z (Ai (Ap ?_)))))));exact dI ⟨fun h=>hok.2 ⟨‹_›, ‹_›,by omega,by omega,by omega,by omega,by rw [← hp];exact ⟨hinv.1,h⟩⟩,fun h=>by have h1:=(hok.1 h).2.2.2.2.2.2.2;rw [← hp] at h1;exact h1⟩
 simp only [lC] at hpl;have hidx:=BM hp;have hnn:=sumI_nn pre hinv.1;have hle:=hinv.2;refine Aj (Ab fun _ z=>Y Aa (Y (An 4 am_fi168_4 am_cl24) (Y (Ao am_ag24) (Y (A5 am_el24) (Y As (Ac z (Az (fun c10=>?_) (fun c10=>?_))))))))
 ·refine Am (Aj (Ev.block (Aj (Ab fun _ z=>Y (An 4 am_fi168_4 am_cl24) (Y (Ao am_ag24) (Y Aa (Y (AQ am_el24 am_cl3 (hl:=(by exact Ba hidx (by omega)))) (Y (AO am_ag3) (Y As (AS Aa (fun c11=>?_) (fun c11=>?_)))))))))))
  ·refine Au (Au (Au (Y AF (Ac z (BI (Ab fun _ z=>Y Ad (Ac z (Ai (hR0 _ _ (Ap ?_))))))))));exact bF (fun h=>by have h1:=HL hp (hok.1 h).2.2.2.2.2.2;omega)
  refine Y (An 4 am_fi168_4 am_cl24) (Y (Ao am_ag24) (Y Aa (Y (AQ am_el24 am_cl3 (hl:=(by exact Ba hidx (by omega)))) (Y (AO am_ag3) (Y Be (Y AE (Ac z (Az (fun c12=>?_) (fun c12=>?_)))))))))
  ·refine Ab fun _ z=>Y Ad (Ac z (Ai (hR0 _ _ (Ap ?_))));exact bF (fun h=>by have h1:=HL hp (hok.1 h).2.2.2.2.2.2;omega)
  refine Am (Ah fun _ z=>Y Aa (Y (An 4 am_fi168_4 am_cl24) (Y (Ao am_ag24) (Y Aa (Y (AQ am_el24 am_cl3 (hl:=(by exact Ba hidx (by omega)))) (Y (AO am_ag3) (Y Ax (Y Ad (Ac z ?_)))))))));show Ev _ _ _ _;refine Ah fun _ z=>Y Aa (Y Ax (Y Ad (Ac z (hR0 _ _ (A4 [0] [1] ⟨(pre ++ [s],suf),Bu hp,?_⟩ B9 (Ag) (Ae (he:=(by congr 2;simp)) (h:=(Ae (he:=(by congr 2;rw [Fu,show BF [s]=s by simp [BF]]))))) (.c .n))))));refine ⟨fun n hn=>?_,by rw [Fu,show BF [s]=s by simp [BF]];simp only [List.length_append,List.length_cons,List.length_nil];omega⟩;simp only [List.mem_append,List.mem_singleton] at hn
  rcases hn with hn | rfl
  ·exact hinv.1 n hn
  ·omega
 omega
theorem Hc (g:FuncId) (c0:List AV) (p:Bar→Bool) (hg:∀ s,Fun Tryz.prog g [.agg (Bar.c s), .sadr c0 0] (AI (bL (p s)) [])) (l:List (Bar)) (hlen:l.length≤140737488355328) :
 Fun Tryz.prog 203 [.sh 5 (l.map Bar.c), .fn (.func g) [] [.sadr c0 0]] (AI (iL (Cn p l 0)) []):=by
 refine Fun.of (nt:=19) (rs:=[.tmp 4]) Tryz.func203 rfl rfl rfl rfl rfl (Ab fun _ z=>Y Ad (Ac z (Aj (Ab fun _ z=>Y Aa (Y (A5 am_el22) (Y Aa (Ac z (Ev.block (AC (ι:={q:List (Bar) × List (Bar) // q.1 ++ q.2=l∧∀ x ∈ q.1,p x=false}) [] [0,1,7] (fun ⟨(pre,suf),_⟩=>[(8,iL (pre.length:Int))]) (fun ⟨(pre,suf),_⟩=>[]) (fun ⟨(pre,suf),_⟩=>suf.length) ⟨([],l),rfl,fun x hx=>by simp at hx⟩ (.c (.c (.c .n))) AN (Ae) ?_)))))))));rintro ⟨⟨pre,suf⟩,hp,hinv⟩ R0 hR0;dsimp only [cA,nA,lC,lN]
 simp only at hp hinv
 have hpl:=BO hp
 rcases suf with _ | ⟨s,suf⟩
 ·rw [List.append_nil] at hp;subst hp;simp only [List.length_nil] at hpl;refine Ab fun _ z=>Y As (Ac z (AG (fun c1=>?_) (fun c1=>?_)))
  ·omega
  refine AA (hR0 _ _ (Ab fun _ z=>Y Ad (Ac z (Ai (Ap ?_)))))
  congr 2;rw [Ez p pre 0 hinv]
 simp only [lC] at hpl;have hidx:=BM hp;refine Ab fun _ z=>Y As (Ac z (AG (fun c3=>?_) (fun c3=>?_)))
 ·refine Aj (Ev.block (Ab fun _ z=>Y Aa (Y Ad (Ac z (Ab fun _ z=>Y Aa (Y Aa (Y Aa (Y (AQ am_el22 am_cl168 (hl:=(by exact Ba hidx (by omega)))) (Y (Bv _ am_ag168 am_cl168) (Ay (hF:=hg s) (h:=Ac z (En (fun c4=>?_) (fun c4=>?_)))))))))))))
  ·refine Ab fun _ z=>Y Aa (Y Ad (Ac z (Ai (hR0 _ _ (Ap ?_)))))
   congr 2;rw [← hp,CQ p pre _ 0 hinv,Cn,if_pos ‹_›];omega
  refine Am (Ah fun _ z=>Y Ax (Y Aa (Ac z (hR0 _ _ (A4 [] [0,1,7] ⟨(pre ++ [s],suf),Bu hp,?_⟩ B9 AN (Ae (he:=(by simp))) (.c (.c (.c .n))))))))
  intro x hx;simp only [List.mem_append,List.mem_singleton] at hx;rcases hx with hx | rfl
  ·exact hinv x hx
  ·assumption
 omega
theorem Rg (mk:List UInt8) (b:Bar):Fun Tryz.prog 368 [.agg b.c, .sadr [sL mk] 0] (AI (bL (decide (b.mark=mk))) []):=by
 refine Fun.of (nt:=8) (rs:=[.tmp 3]) Tryz.func368 rfl rfl rfl rfl rfl (Ab fun _ z=>Aq (Bo _ true) (Y Ad (Ac z (Ab fun _ z=>Y (An 0 am_fi168_0 am_cl9) (Y (Ao am_ag9) (Y (AO am_ag9) (Y DY (Y Ad (Ac z (Ai (Ap ?_)))))))))));rfl
def CE (l:List Bar) (mk:List UInt8):Int:=Cn (fun b=>decide (b.mark=mk)) l 0
theorem MG (l:List Bar) (mk:List UInt8) (hlen:l.length≤140737488355328):Fun Tryz.prog 260 [.sh 5 (l.map Bar.c),sL mk] (AI (iL (CE l mk)) []):=by
 refine Fun.of (nt:=8) (rs:=[.tmp 4]) Tryz.func260 rfl rfl rfl rfl rfl (Ab fun _ z=>Aq (Bo _ true) (Y Ad (Ac z (Ab fun _ z=>Y Aa (Y EE (Ay (hF:=Hc _ _ _ (Rg mk) l (by omega)) (h:=Y Ad (Ac z (Ai (Ap ?_))))))))));rfl
def CY (l:List Bar):Prop:=l.length≤60∧(∀ b ∈ l,BU b)∧l.Pairwise (fun a b=>a.mark≠b.mark)
instance (l):Decidable (CY l):=by unfold CY;infer_instance
def Ce (l:List Bar):Prop:=∀ b ∈ l,b.w
theorem OG {pre suf l:List Bar} {s:Bar} (hp:pre ++ s :: suf=l):CE l s.mark=pre.length↔∀ a ∈ pre,a.mark≠s.mark:=by
 constructor
 ·intro h a ha hm;obtain ⟨p1,p2,rfl⟩:=List.append_of_mem ha
  have hle:CE l s.mark≤p1.length:=by
   rw [← hp,CE,List.append_assoc]
   have:∀ (q:List Bar) (k:Int) (r:List Bar),a.mark=s.mark→Cn (fun b:Bar=>decide (b.mark=s.mark)) (q ++ a :: r) k≤k+q.length:=by
    intro q
    induction q with
    |nil=>intro k r hm;rw [List.nil_append,Cn,if_pos (by simp [hm])];simp
    |cons x q ih =>
     intro k r hm;rw [List.cons_append,Cn]
     split
     ·simp only [List.length_cons];omega
     have:=ih (k+1) r hm;simp only [List.length_cons];omega
   have:=this p1 0 (p2 ++ s :: suf) hm
   simpa using this
  rw [h] at hle;simp only [List.length_append,List.length_cons] at hle;omega
 intro h;rw [CE, ← hp,CQ _ pre _ 0 (fun a ha=>by simp [h a ha]),Cn,if_pos (by simp)];omega
theorem I0 {pre suf l:List Bar} {s:Bar} (hp:pre ++ s :: suf=l) (h:CY l):BU s∧CE l s.mark=pre.length:=by
 obtain ⟨h1,h2,h3⟩:=h;refine ⟨h2 s (by rw [← hp];simp),(OG hp).2 fun a ha=>?_⟩;rw [← hp,List.pairwise_append] at h3;exact h3.2.2 a ha s (by simp)
theorem Md {pre suf l:List Bar} {s:Bar} (hp:pre ++ s :: suf=l) (h:(∀ b ∈ pre,BU b)∧pre.Pairwise (fun a b=>a.mark≠b.mark)) (h1:BU s) (h2:CE l s.mark=pre.length) :
 (∀ b ∈ pre ++ [s],BU b)∧(pre ++ [s]).Pairwise (fun a b=>a.mark≠b.mark):=by
 refine ⟨fun b hb=>?_,List.pairwise_append.2 ⟨h.2,by simp,fun a ha b hb=>?_⟩⟩
 ·rcases List.mem_append.1 hb with hb | hb
  ·exact h.1 b hb
  simp at hb;subst hb;exact h1
 simp at hb;subst hb
 exact (OG hp).1 h2 a ha
theorem IX (l:List Bar) (hlen:l.length≤140737488355328) (hw:Ce l):Fun Tryz.prog 145 [.sh 5 (l.map Bar.c)] (AI (bL (decide (CY l))) []):=by
 refine Fun.of (nt:=27) (rs:=[.tmp 2]) Tryz.func145 rfl rfl rfl rfl rfl (Ab fun _ z=>Y Ad (Ac z (Aj (Ab fun _ z=>Y Aa (Y (A5 am_el22) (Y Be (Ac z (Az (fun c1=>?_) (fun c1=>?_)))))))))
 ·refine Ab fun _ z=>Y Ad (Ac z (Ai (Ap ?_)));exact bF (fun h=>by have h1:=h.1;omega)
 refine Am (Aj (Ab fun _ z=>Y Aa (Y (A5 am_el22) (Y Aa (Ac z (Ev.block (AC (ι:={q:List Bar × List Bar // q.1 ++ q.2=l∧(∀ b ∈ q.1,BU b)∧q.1.Pairwise (fun a b=>a.mark≠b.mark)}) [] [0,8,9] (fun ⟨(pre,suf),_⟩=>[(10,iL (pre.length:Int))]) (fun ⟨(pre,suf),_⟩=>[]) (fun ⟨(pre,suf),_⟩=>suf.length) ⟨([],l),rfl,⟨fun b hb=>by simp at hb,by simp⟩⟩ (.c (.c (.c .n))) AN (Ae) ?_)))))));rintro ⟨⟨pre,suf⟩,hp,hinv⟩ R0 hR0;dsimp only [cA,nA,lC,lN]
 simp only at hp hinv
 have hpl:=BO hp
 rcases suf with _ | ⟨s,suf⟩
 ·rw [List.append_nil] at hp;simp only [lN] at hpl;refine Ab fun _ z=>Y As (Ac z (AG (fun c2=>?_) (fun c2=>?_)))
  ·omega
  refine AA (hR0 _ _ (Ab fun _ z=>Y Ad (Ac z (Ai (Ap ?_)))));exact bT ⟨by omega,by rw [← hp];exact hinv⟩
 simp only [lC] at hpl;have hidx:=BM hp;have hsw:s.w:=hw s (by rw [← hp];simp);refine Ab fun _ z=>Y As (Ac z (AG (fun c5=>?_) (fun c5=>?_)))
 ·refine Aj (Ev.block (Ab fun _ z=>Y Aa (Y (AQ am_el22 am_cl168 (hl:=(by exact Ba hidx (by omega)))) (Y (Bv _ am_ag168 am_cl168) (Aq (AT am_ze168) (Y Ad (Ar _ true [] am_in168 am_cl168 (h:=Ac z (Ab fun _ z=>Y (A6 _ am_ag168 am_cl168) (Ay (hF:=Kl _ (by assumption)) (h:=Y Bw (Dc Aa (fun c6=>?_) (fun c6=>?_)))))))))))))
  ·refine Au (Au (Au (Y AF (Ac z (BI (Ab fun _ z=>Y Ad (Ac z (Ai (hR0 _ _ (Ap ?_))))))))));exact bF (fun h=>absurd (I0 hp h).1 ‹_›)
  refine Y Aa (Y (An 0 am_fi168_0 am_cl9) (Y (Ao am_ag9) (Ay (hF:=MG _ _ (by omega)) (h:=Y Aa (Y Bn (Y AE (Ac z (Bh (fun c7=>?_) (fun c7=>?_)))))))))
  ·refine Ab fun _ z=>Y Ad (Ac z (Ai (hR0 _ _ (Ap ?_))));exact bF (fun h=>by have h1:=(I0 hp h).2;omega)
  refine Am (Ah fun _ z=>Y Ax (Y Aa (Ac z (hR0 _ _ (A4 [] [0,8,9] ⟨(pre ++ [s],suf),Bu hp,?_⟩ B9 AN (Ae (he:=(by simp))) (.c (.c (.c .n))))))));exact Md hp hinv ‹_› (by omega)
 omega
theorem Nv (l:List Bar) (mk:List UInt8) (hlen:l.length≤140737488355328):Fun Tryz.prog 268 [.sh 5 (l.map Bar.c),sL mk] (AI (iL (CE l mk)) []):=by
 unfold CE
 refine Fun.of (nt:=20) (rs:=[.tmp 4]) Tryz.func268 rfl rfl rfl rfl rfl (Ab fun _ z=>Y Ad (Ac z (Aj (Ab fun _ z=>Y Ad (Ac z (Ev.block (AC (ι:={q:List Bar × List Bar // q.1 ++ q.2=l∧∀ x ∈ q.1,decide (x.mark=mk)=false}) [] [0,1] (fun ⟨(pre,suf),_⟩=>[(5,iL (pre.length:Int))]) (fun ⟨(pre,suf),_⟩=>[]) (fun ⟨(pre,suf),_⟩=>suf.length) ⟨([],l),rfl,fun x hx=>by simp at hx⟩ (.c (.c .n)) AN (Ae) ?_)))))));rintro ⟨⟨pre,suf⟩,hp,hinv⟩ R0 hR0;dsimp only [cA,nA,lC,lN]
 simp only at hp hinv
 have hpl:=BO hp
 rcases suf with _ | ⟨s,suf⟩
 ·rw [List.append_nil] at hp;subst hp;simp only [List.length_nil] at hpl;refine Aj (Ab fun _ z=>Y Aa (Y Aa (Y (A5 am_el22) (Y As (Ac z (Az (fun c1=>?_) (fun c1=>?_)))))))
  ·omega
  refine AA (hR0 _ _ (Ab fun _ z=>Y Ad (Ac z (Ai (Ap ?_)))))
  congr 2;rw [Ez _ pre 0 hinv]
 simp only [lC] at hpl;have hidx:=BM hp;refine Aj (Ab fun _ z=>Y Aa (Y Aa (Y (A5 am_el22) (Y As (Ac z (Az (fun c3=>?_) (fun c3=>?_)))))))
 ·refine Am (Aj (Ev.block (Ab fun _ z=>Y Aa (Y Aa (Y (AQ am_el22 am_cl168 (hl:=(by exact Ba hidx (by omega)))) (Y (BH 0 am_fi168_0 am_cl9) (Y (AO am_ag9) (Y Aa (Y DY (Ac z (Az (fun c4=>?_) (fun c4=>?_))))))))))))
  ·refine Ab fun _ z=>Y Aa (Y Ad (Ac z (Ai (hR0 _ _ (Ap ?_)))))
   congr 2;rw [← hp,CQ _ pre _ 0 hinv,Cn,if_pos (decide_eq_true ‹_›)];omega
  refine Am (Ah fun _ z=>Y Aa (Y Ax (Y Ad (Ac z (hR0 _ _ (A4 [] [0,1] ⟨(pre ++ [s],suf),Bu hp,?_⟩ B9 AN (Ae (he:=(by simp))) (.c (.c .n))))))))
  intro x hx;simp only [List.mem_append,List.mem_singleton] at hx;rcases hx with hx | rfl
  ·exact hinv x hx
  ·exact decide_eq_false ‹_›
 omega
theorem LZ (l:List Bar) (hlen:l.length≤140737488355328) (hw:Ce l):Fun Tryz.prog 155 [.sh 5 (l.map Bar.c)] (AI (bL (decide (CY l))) []):=by
 refine Fun.of (nt:=30) (rs:=[.tmp 2]) Tryz.func155 rfl rfl rfl rfl rfl (Ab fun _ z=>Y Ad (Ac z (Aj (Ab fun _ z=>Y Aa (Y (A5 am_el22) (Y Be (Ac z (Az (fun c1=>?_) (fun c1=>?_)))))))))
 ·refine Ab fun _ z=>Y Ad (Ac z (Ai (Ap ?_)));exact bF (fun h=>by have h1:=h.1;omega)
 refine Am (Aj (Ab fun _ z=>Y Ad (Ac z (Ev.block (AC (ι:={q:List Bar × List Bar // q.1 ++ q.2=l∧(∀ b ∈ q.1,BU b)∧q.1.Pairwise (fun a b=>a.mark≠b.mark)}) [] [0] (fun ⟨(pre,suf),_⟩=>[(3,iL (pre.length:Int))]) (fun ⟨(pre,suf),_⟩=>[]) (fun ⟨(pre,suf),_⟩=>suf.length) ⟨([],l),rfl,⟨fun b hb=>by simp at hb,by simp⟩⟩ (.c .n) AN (Ae) ?_)))));rintro ⟨⟨pre,suf⟩,hp,hinv⟩ R0 hR0;dsimp only [cA,nA,lC,lN]
 simp only at hp hinv
 have hpl:=BO hp
 rcases suf with _ | ⟨s,suf⟩
 ·rw [List.append_nil] at hp;simp only [lN] at hpl;refine Aj (Ab fun _ z=>Y Aa (Y Aa (Y (A5 am_el22) (Y As (Ac z (Az (fun c2=>?_) (fun c2=>?_)))))))
  ·omega
  refine AA (hR0 _ _ (Ab fun _ z=>Y Ad (Ac z (Ai (Ap ?_)))));exact bT ⟨by omega,by rw [← hp];exact hinv⟩
 simp only [lC] at hpl;have hidx:=BM hp;have hsw:s.w:=hw s (by rw [← hp];simp);refine Aj (Ab fun _ z=>Y Aa (Y Aa (Y (A5 am_el22) (Y As (Ac z (Az (fun c5=>?_) (fun c5=>?_)))))))
 ·refine Am (Aj (Ev.block (Ab fun _ z=>Y Aa (Y Aa (Y (AQ am_el22 am_cl168 (hl:=(by exact Ba hidx (by omega)))) (Y (Bv _ am_ag168 am_cl168) (Ay (hF:=RO _ (by assumption)) (h:=Y Bw (Dc Aa (fun c6=>?_) (fun c6=>?_))))))))))
  ·refine Au (Au (Au (Au (Bq (Y AF (Ac z (BI (Ab fun _ z=>Y Ad (Ac z (Ai (hR0 _ _ (Ap ?_))))))))))));exact bF (fun h=>absurd (I0 hp h).1 ‹_›)
  refine Y Aa (Y Aa (Y Aa (Y (AQ am_el22 am_cl168 (hl:=(by exact Ba hidx (by omega)))) (Y (BH 0 am_fi168_0 am_cl9) (Y (AO am_ag9) (Ay (hF:=Nv _ _ (by omega)) (h:=Y Aa (Y Bn (Y AE (Ac z (Bh (fun c7=>?_) (fun c7=>?_))))))))))))
  ·refine Ab fun _ z=>Y Ad (Ac z (Ai (hR0 _ _ (Ap ?_))));exact bF (fun h=>by have h1:=(I0 hp h).2;omega)
  refine Am (Ah fun _ z=>Y Aa (Y Ax (Y Ad (Ac z (hR0 _ _ (A4 [] [0] ⟨(pre ++ [s],suf),Bu hp,?_⟩ B9 AN (Ae (he:=(by simp))) (.c .n)))))));exact Md hp hinv ‹_› (by omega)
 omega
theorem Pq {d:Int} (h:Gy d=0):d ∈ sizes:=by
 by_cases hd:d ∈ sizes
 ·exact hd
 rw [Gy,if_neg hd] at h;cases h
theorem Fv {d v:Int} (h:d ∈ sizes):Ib d v=v:=if_pos h
theorem IZ {d:Int} (h:d ∈ sizes):Gy d=0:=if_pos h
theorem K3 {d v:Int} (h:¬ Gy d=0):Ib d v=0:=if_neg (fun h'=>h (IZ h'))
theorem Q7 {d:Int} (h:¬ Gy d=0):Gy d=1:=if_neg (fun h'=>h (IZ h'))
def HV (d n:Int):Int:=(6165 * d * d * n+500000) / 1000000
theorem OH {d n:Int} (h:d ∈ sizes) (h0:0≤n) (h1:n≤1048576):0≤6165 * d∧6165 * d≤246600∧0≤6165 * d * d∧6165 * d * d≤9864000∧0≤6165 * d * d * n∧6165 * d * d * n≤9864000 * 1048576:=by
 simp only [sizes,List.mem_cons,List.not_mem_nil,or_false] at h
 rcases h with h | h | h | h | h | h | h | h | h <;> subst h <;> omega
theorem SN {d n:Int} (h:d ∈ sizes) (h0:0≤n) (h1:n≤1048576):0≤HV d n∧HV d n≤10343154:=by
 have:=OH h h0 h1
 unfold HV
 omega
theorem Ng (d n:Int) (h:d ∈ sizes) (h0:0≤n) (h1:n≤1048576):Fun Tryz.prog 336 [.sadr [iL d] 0, .sadr [iL n] 0] (AI (iL (HV d n)) []):=by
 obtain ⟨m1,m2,m3,m4,m5,m6⟩:=OH h h0 h1;refine Fun.of (nt:=11) (rs:=[.tmp 2]) Tryz.func336 rfl rfl rfl rfl rfl (Ab fun _ z=>Y Ad (Ac z (Ab fun _ z=>Y (AO am_ag3) (Y BC (Y (AO am_ag3) (Y BC (Y (AO am_ag3) (Y BC (Y Ax (Y NV (Y Ad (Ac z (Ai (IF (⟨?_,rfl⟩)))))))))))))));rfl
theorem TR (d n:Int) (h0:0≤n) (h1:n≤1048576):Fun Tryz.prog 231 [iL d,iL n] (AI (.tup [iL (Ib d (HV d n)),iL (Gy d)]) []):=by
 refine Fun.of (nt:=21) (rs:=[.tmp 4, .tmp 5]) Tryz.func231 rfl rfl rfl rfl rfl (Ab fun _ z=>Aq (Bo _ true) (Aq (Bo _ true) (Y Ad (Y Ad (Ac z (Aj (Ab fun _ z=>Y (Ao am_ag3) (Ay (hF:=Ju _) (h:=AS Aa (fun c1=>?_) (fun c1=>?_))))))))))
 ·refine Y (Ao am_ag3) (Y As (AS Aa (fun c2=>?_) (fun c2=>?_)))
  ·omega
  refine Y (Ao am_ag3) (Y Be (Y AE (Y AF (Ac z (Az (fun c3=>?_) (fun c3=>?_))))))
  ·omega
  refine Am ?_;show Ev _ _ _ _;refine Ab fun _ z=>Y (Ao am_ag3) (Y EE (Ay (hF:=Me _ _ _ _ _ (fun h=>Ng _ _ h (by omega) (by omega))) (h:=Y AH (Y AH (Y Ad (Y Ad (Ac z (Ai (Cx (⟨?_,rfl⟩))))))))));rfl
 refine Au (Au (Au (Y AE (Ac z (Cw (Am ?_))))));show Ev _ _ _ _;refine Ab fun _ z=>Y (Ao am_ag3) (Y EE (Ay (hF:=Me _ _ _ _ _ (fun h=>Ng _ _ h (by omega) (by omega))) (h:=Y AH (Y AH (Y Ad (Y Ad (Ac z (Ai (Cx (⟨?_,rfl⟩))))))))));rfl
def Ej (d:Int):Int:=if d≤16 then 5 * d / 2 else 4 * d
def Il (d:Int):Int:=500 * Ej d * 333 / 106
def Ik (d:Int):Int:=(500 * Ej d * 355+113 - 1) / 113
def Ij (d:Int):Int:=2000 * Ej d - Ik d
def Ii (d:Int):Int:=2000 * Ej d - Il d
theorem Ko {d:Int} (h:d ∈ sizes):15≤Ej d∧Ej d≤160∧0≤Il d∧Il d≤300000∧0≤Ik d∧Ik d≤300000∧0≤Ij d∧Ij d≤70000∧0≤Ii d∧Ii d≤70000:=by
 simp only [sizes,List.mem_cons,List.not_mem_nil,or_false] at h
 rcases h with h | h | h | h | h | h | h | h | h <;> subst h <;> decide
theorem Sn (d:Int) (h:d ∈ sizes):Fun Tryz.prog 322 [.sadr [iL d] 0] (AI (iL (Ej d)) []):=by
 obtain ⟨h0,h1⟩:=Q5 h;refine Fun.of (nt:=9) (rs:=[.tmp 1]) Tryz.func322 rfl rfl rfl rfl rfl (Ab fun _ z=>Y Ad (Ac z (Aj (Ab fun _ z=>Y (AO am_ag3) (Y Cb (Ac z (Az (fun c1=>?_) (fun c1=>?_))))))))
 ·refine Ab fun _ z=>Y (AO am_ag3) (Y BC (Y NV (Y Ad (Ac z (Ai (IF (⟨?_,rfl⟩)))))));rw [Ej,if_pos ‹_›]
 refine Am ?_;show Ev _ _ _ _;refine Ab fun _ z=>Y (AO am_ag3) (Y BC (Y Ad (Ac z (Ai (IF (⟨?_,rfl⟩))))));rw [Ej,if_neg ‹_›]
theorem NY (d:Int):Fun Tryz.prog 220 [iL d] (AI (.tup [iL (Ib d (Ej d)),iL (Gy d)]) []):=by
 refine Fun.of (nt:=9) (rs:=[.tmp 2, .tmp 3]) Tryz.func220 rfl rfl rfl rfl rfl (Ab fun _ z=>Aq (Bo _ true) (Y Ad (Y Ad (Ac z (Ab fun _ z=>Y (Ao am_ag3) (Y EE (Ay (hF:=RR _ _ _ _ (Sn _)) (h:=Y AH (Y AH (Y Ad (Y Ad (Ac z (Ai (Cx (⟨?_,rfl⟩)))))))))))))));rfl
theorem TA (n d:Int) (h0:0≤n) (h1:n≤1000000000000) (h2:1≤d) (h3:d≤1000000):Fun Tryz.prog 335 [iL n,iL d] (AI (iL ((n+d - 1) / d)) []):=by
 refine Fun.of (nt:=11) (rs:=[.tmp 4]) Tryz.func335 rfl rfl rfl rfl rfl (Ab fun _ z=>Y Ad (Ac z (Ab fun _ z=>Y Aa (Y Aa (Y Ax (Y BK (Y Aa (Y NV (Y Ad (Ac z (Ai (IF (⟨?_,rfl⟩)))))))))))));rfl
theorem VA (d:Int):Fun Tryz.prog 462 [iL d] (AI (.tup [.agg [iL (Ib d (Il d)),iL (Ib d (Ik d))],iL (Gy d)]) []):=by
 refine Fun.of (nt:=23) (rs:=[.cell 2 68, .tmp 3]) Tryz.func462 rfl rfl rfl rfl rfl (Ab fun _ z=>Aq (AT am_ze68) (Y Ad (Ac z (Ab fun _ z=>Y Aa (Ay (hF:=NY _) (h:=Y Aa (Y AH (Y AH (Y Ad (Y Ad (Ac z (Aj (Ab fun _ z=>Y Aa (Y Bn (Ac z (Bh (fun c1=>?_) (fun c1=>?_)))))))))))))))))
 ·refine Ab fun _ z=>Y (Bg _ am_ze68 am_pl68) (Ar _ true [] am_in68 am_cl68 (h:=Y Ad (Ac z (Ai (D1 (Bp [_,_] am_ag68 am_cl68 (Db res_n)) (⟨?_,rfl⟩))))));rw [K3 ‹_›,K3 ‹_›,Q7 ‹_›]
 refine Am ?_;show Ev _ _ _ _;have hz:=Pq ‹Gy d=0›;obtain ⟨b1,b2,b3,b4,b5,b6,b7,b8,b9,b10⟩:=Ko hz;have e1:=Fv (v:=Ej d) hz;have e2:=Fv (v:=Il d) hz;have e3:=Fv (v:=Ik d) hz;have a1:Il d=500 * Ej d * 333 / 106:=rfl;have a2:Ik d=(500 * Ej d * 355+113 - 1) / 113:=rfl;simp only [e1,e2,e3];refine Ab fun _ z=>Y Aa (Y BC (Y BC (Y NV (Y Aa (Y BC (Y BC (Ay (hF:=TA _ _ (by omega) (by omega) (by omega) (by omega)) (h:=Y (Bg _ am_ze68 am_pl68) (Ar _ true [] am_in68 am_cl68 (h:=Y Ad (Ac z (Ai (D1 (Bp [_,_] am_ag68 am_cl68 (Db res_n)) (⟨?_,rfl⟩))))))))))))));rw [IZ hz];rfl
theorem N5 (d:Int):Fun Tryz.prog 414 [iL d] (AI (.tup [.agg [iL (Ib d (Ij d)),iL (Ib d (Ii d))],iL (Gy d)]) []):=by
 refine Fun.of (nt:=35) (rs:=[.cell 2 68, .tmp 3]) Tryz.func414 rfl rfl rfl rfl rfl (Ab fun _ z=>Aq (AT am_ze68) (Y Ad (Ac z (Ab fun _ z=>Y Aa (Ay (hF:=VA _) (h:=Y Aa (Y AH (Y AH (Aq (AT am_ze68) (Ar _ true [_] am_in68 am_cl68 (h:=Y Ad (Ac z (Aj (Ab fun _ z=>Y Aa (Y Bn (Ac z (Bh (fun c1=>?_) (fun c1=>?_))))))))))))))))))
 ·refine Ab fun _ z=>Y (Bg _ am_ze68 am_pl68) (Y Aa (Ar _ true [_] am_in68 am_cl68 (h:=Y Ad (Ac z (Ai (D1 (Bp [_,_] am_ag68 am_cl68 (Db res_n)) (⟨?_,rfl⟩)))))));rw [K3 ‹_›,K3 ‹_›,Q7 ‹_›]
 refine Am ?_;show Ev _ _ _ _;refine Ab fun _ z=>Y Aa (Ay (hF:=NY _) (h:=Y Aa (Y AH (Y AH (Y Ad (Y Ad (Ac z (Aj (Ab fun _ z=>Y Aa (Y Bn (Ac z (Bh (fun c2=>?_) (fun c2=>?_)))))))))))))
 ·omega
 refine Am ?_;show Ev _ _ _ _;have hz:=Pq ‹Gy d=0›;obtain ⟨b1,b2,b3,b4,b5,b6,b7,b8,b9,b10⟩:=Ko hz;have e1:=Fv (v:=Ej d) hz;have e2:=Fv (v:=Il d) hz;have e3:=Fv (v:=Ik d) hz;have a1:Il d=500 * Ej d * 333 / 106:=rfl;have a2:Ik d=(500 * Ej d * 355+113 - 1) / 113:=rfl;simp only [e1,e2,e3];refine Ab fun _ z=>Y Aa (Y BC (Y (An 1 am_fi68_1 am_cl3) (Y (Ao am_ag3) (Y BK (Y Aa (Y BC (Y (An 0 am_fi68_0 am_cl3) (Y (Ao am_ag3) (Y BK (Y (Bg _ am_ze68 am_pl68) (Ar _ true [_] am_in68 am_cl68 (h:=Y Ad (Ac z (Ai (D1 (Bp [_,_] am_ag68 am_cl68 (Db res_n)) (⟨?_,rfl⟩))))))))))))))));rw [Fv hz,Fv hz,IZ hz];rfl
def AY (b:Bar) (i:Nat):Int:=(b.dims[i]?).getD 0
def BN (b:Bar):List Int:=(Cp b.code).map (fun s=>AY b s.1.toNat)
def OT (b:Bar) (v:Int):Int:=if BU b then v else 0
def Gw (b:Bar):Int:=if BU b then 0 else 1
def NQ (b:Bar):List Int:=if BU b then BN b else []
theorem Lg {b:Bar} (h:Gw b=0):BU b:=by
 by_cases hd:BU b
 ·exact hd
 rw [Gw,if_neg hd] at h;cases h
theorem GN {b:Bar} {v:Int} (h:BU b):OT b v=v:=if_pos h
theorem JV {b:Bar} (h:BU b):Gw b=0:=if_pos h
theorem Kv {b:Bar} {v:Int} (h:¬ Gw b=0):OT b v=0:=if_neg (fun h'=>h (JV h'))
theorem M4 {b:Bar} (h:¬ Gw b=0):Gw b=1:=if_neg (fun h'=>h (JV h'))
theorem F2 (b:Bar):(BN b).length≤6:=by
 rw [BN,List.length_map];exact (H5 b.code).2.2.2
theorem B2 {b:Bar} (h:BU b) {i:Nat} (hi:(i:Int) < CA b.code):b.dims[i]?= some (AY b i)∧1≤AY b i∧AY b i≤262144:=by
 have hl:=h.2.2.2.2.2.1;have e:b.dims[i]?= some (b.dims[i]'(by omega)):=List.getElem?_eq_getElem _
 have e2:AY b i=b.dims[i]'(by omega):=by rw [AY,e];rfl
 refine ⟨by rw [e,e2],?_⟩;rw [e2];exact VK h.2.2.2.2.2.2 (List.getElem_mem _)
theorem M2 {b:Bar} (h:BU b):∀ n ∈ BN b,1≤n∧n≤262144:=by
 intro n hn;rw [BN,List.mem_map] at hn;obtain ⟨s,hs,rfl⟩:=hn;have:=LF b.code s hs;exact (B2 h (i:=s.1.toNat) (by omega)).2
theorem Uq {b:Bar} (h:BU b):1≤(BN b).length:=by
 rw [BN,List.length_map];have h1:=h.2.2.2.2.1
 rcases Hq b.code with e | e | e | e | e | e | e | e | e
 iterate 8 (rw [e];decide)
 exact absurd (Dh e).2 h1
theorem SM (b:Bar) (hw:b.w):Fun Tryz.prog 219 [.agg b.c] (AI (.tup [.sh 1 ((NQ b).map AD),iL (Gw b)]) []):=by
 obtain ⟨hw1,hw2⟩:=id hw;obtain ⟨d1,d2,d3,d4⟩:=H5 b.code;refine Fun.of (nt:=29) (rs:=[.tmp 2, .tmp 3]) Tryz.func219 rfl rfl rfl rfl rfl (Ab fun _ z=>Aq (Bo _ true) (Y Ad (Y Ad (Ac z (Aj (Ab fun _ z=>Y (A6 _ am_ag168 am_cl168) (Ay (hF:=Kl _ (by assumption)) (h:=Y Bw (Ac z (Bh (fun c1=>?_) (fun c1=>?_)))))))))))
 ·refine Ab fun _ z=>Y Ad (Y Ad (Ac z (Av (Wk.nsh AD 2 1) (Ai (Cx (⟨?_,rfl⟩))))));rw [NQ,Gw,if_neg ‹_›,if_neg ‹_›]
 refine Am ?_;show Ev _ _ _ _;refine Ab fun _ z=>Y Ad (Ac z (Aj (Ab fun _ z=>Y (An 3 am_fi168_3 am_cl3) (Y (Ao am_ag3) (Ay (hF:=Lc _) (h:=Y (A5 am_el420) (Y Aa (Ac z (Ev.block (Av (Wk.nown AD 4 3 1) (AC (ι:={p:List (Int × Int) × List (Int × Int) // p.1 ++ p.2=(Cp b.code)∧True}) [0,1] [1,12,13] (fun ⟨(pre,suf),_⟩=>[(14,iL (pre.length:Int)),(4, .als 1 0 (pre.map (fun s=>AY b s.1.toNat)).length)]) (fun ⟨(pre,suf),_⟩=>[(0,⟨false,168,5,[[sL (b.mark),iL (b.size),iL (b.count),iL (b.code), .sh 1 ((b.dims).map AD)]],true⟩),(1,⟨true,3,1,(pre.map (fun s=>AY b s.1.toNat)).map AD,true⟩)]) (fun ⟨(pre,suf),_⟩=>suf.length) ⟨([],(Cp b.code)),rfl,trivial⟩ (.c (.c (.c .n))) (Ag (h:=(Ag))) (Ae (h:=(Ae))) ?_)))))))))));rintro ⟨⟨pre,suf⟩,hp,hinv⟩ R0 hR0;dsimp only [cA,nA,lC,lN]
 simp only at hp hinv
 have hpl:=BO hp
 rcases suf with _ | ⟨s,suf⟩
 ·rw [List.append_nil] at hp;simp only [lN] at hpl;refine Ab fun _ z=>Y As (Ac z (AG (fun c2=>?_) (fun c2=>?_)))
  ·omega
  refine AA (hR0 _ _ ?_);show Ev _ _ _ _;refine Ab fun _ z=>Y Aa (Y Ad (Y Ad (Ac z (Av (Wk.frz 2 [_]) (Ai (Cx (⟨?_,rfl⟩)))))));rw [NQ,Gw,if_pos ‹_›,if_pos ‹_›,BN, ← hp]
 simp only [lC] at hpl;have hidx:=BM hp;have hlb:=LF b.code s (by rw [← hp];simp);obtain ⟨hdi,hd1,hd2⟩:=B2 ‹BU b› (i:=s.1.toNat) (by omega);have hml:(pre.map (fun s:Int × Int=>AY b s.1.toNat)).length=pre.length:=List.length_map _;refine Ab fun _ z=>Y As (Ac z (AG (fun c3=>?_) (fun c3=>?_)))
 ·refine Aj (Ev.block (Ab fun _ z=>Y (AQ am_el420 am_cl423 (hl:=(by exact Ba hidx (by omega)))) (Y (Bv _ am_ag423 am_cl423) (Aq (AT am_ze423) (Ar _ true [_,_] am_in423 am_cl423 (h:=Ac z (Ah fun _ z=>Y Aa (Y (An 4 am_fi168_4 am_cl24) (Y (Ao am_ag24) (Y (An 0 am_fi423_0 am_cl3) (Y (Ao am_ag3) (Y (AQ am_el24 am_cl3 (hl:=(by exact Ba hdi (by omega)))) (Y (AO am_ag3) (Aq (Bf [[_]] true am_el24 am_ze3 am_cl3) (AW [_,_,_] am_el24 am_ze3 am_cl3 am_by3 (hh:=A3) (hr:=(A7 [_])) (h:=Y Ad (Ac z ?_)))))))))))))))));show Ev _ _ _ _;refine Ah fun _ z=>Y Ax (Y Aa (Ac z (hR0 _ _ (A4 [0,4] [1,12,13] ⟨(pre ++ [s],suf),Bu hp,trivial⟩ B9 (Ag (h:=(Ag (he:=(by simp))))) (Ae (he:=(by congr 2;simp)) (h:=(Ae (he:=(by congr 1;simp))))) (.c (.c (.c .n)))))))
 omega
def Yf (b:Bar):Int:=1000 * BF (BN b) - ((BN b).length - 1) * Ii b.size
def L2 (b:Bar):Int:=1000 * BF (BN b) - ((BN b).length - 1) * Ij b.size
theorem sumI_bd:∀ (l:List Int),(∀ n ∈ l,1≤n∧n≤262144)→0≤BF l∧BF l≤262144 * l.length
 |[],_=>by decide
 |x :: l,h=>by
  have:=h x (by simp);have:=sumI_bd l (fun n hn=>h n (by simp [hn]));rw [Kj,List.length_cons];omega
theorem OD {b:Bar} (h:BU b):0≤BF (BN b)∧BF (BN b)≤524288:=by
 refine ⟨(sumI_bd _ (M2 h)).1,?_⟩;obtain ⟨_,_,_,_,h1,h2,h3,h4⟩:=h
 have hl:b.dims.length=(CA b.code).toNat:=by omega
 obtain ⟨mk,sz,cn,cd,ds⟩:=b
 simp only at hl h1 h3 h4
 unfold BN AY
 simp only
 rcases Hq cd with e | e | e | e | e | e | e | e | e
 ·subst e
  match ds,hl with
  |[x0],_ =>
   have k0:=h3 x0 (by simp);simp only [BF,List.foldl_cons,List.foldl_nil] at h4
   simp [BF,Cp]
   omega
 ·subst e
  match ds,hl with
  |[x0,x1],_ =>
   have k0:=h3 x0 (by simp);have k1:=h3 x1 (by simp);simp only [BF,List.foldl_cons,List.foldl_nil] at h4
   simp [BF,Cp]
   omega
 ·subst e
  match ds,hl with
  |[x0,x1,x2],_ =>
   have k0:=h3 x0 (by simp);have k1:=h3 x1 (by simp);have k2:=h3 x2 (by simp);simp only [BF,List.foldl_cons,List.foldl_nil] at h4
   simp [BF,Cp]
   omega
 ·subst e
  match ds,hl with
  |[x0,x1,x2],_ =>
   have k0:=h3 x0 (by simp);have k1:=h3 x1 (by simp);have k2:=h3 x2 (by simp);simp only [BF,List.foldl_cons,List.foldl_nil] at h4
   simp [BF,Cp]
   omega
 ·subst e
  match ds,hl with
  |[x0,x1,x2],_ =>
   have k0:=h3 x0 (by simp);have k1:=h3 x1 (by simp);have k2:=h3 x2 (by simp);simp only [BF,List.foldl_cons,List.foldl_nil] at h4
   simp [BF,Cp]
   omega
 ·subst e
  match ds,hl with
  |[x0,x1,x2,x3,x4],_ =>
   have k0:=h3 x0 (by simp);have k1:=h3 x1 (by simp);have k2:=h3 x2 (by simp);have k3:=h3 x3 (by simp);have k4:=h3 x4 (by simp);simp only [BF,List.foldl_cons,List.foldl_nil] at h4
   simp [BF,Cp]
   omega
 ·subst e
  match ds,hl with
  |[x0,x1,x2],_ =>
   have k0:=h3 x0 (by simp);have k1:=h3 x1 (by simp);have k2:=h3 x2 (by simp);simp only [BF,List.foldl_cons,List.foldl_nil] at h4
   simp [BF,Cp]
   omega
 ·subst e
  match ds,hl with
  |[x0,x1,x2],_ =>
   have k0:=h3 x0 (by simp);have k1:=h3 x1 (by simp);have k2:=h3 x2 (by simp);simp only [BF,List.foldl_cons,List.foldl_nil] at h4
   simp [BF,Cp]
   omega
 exact absurd (Dh e).2 h1
theorem Ox {b:Bar} (h:BU b):0≤((BN b).length - 1) * Ii b.size∧((BN b).length - 1) * Ii b.size≤5 * 70000∧0≤((BN b).length - 1) * Ij b.size∧((BN b).length - 1) * Ij b.size≤5 * 70000∧ -350000≤L2 b∧L2 b≤524288000:=by
 have h1:=Uq h;have h2:=F2 b;obtain ⟨b1,b2,b3,b4,b5,b6,b7,b8,b9,b10⟩:=Ko h.2.1;obtain ⟨p1,p2⟩:=OL (k:=((BN b).length:Int) - 1) (K:=5) (a:=Ii b.size) (A:=70000) (by omega) (by omega) b9 b10;obtain ⟨p3,p4⟩:=OL (k:=((BN b).length:Int) - 1) (K:=5) (a:=Ij b.size) (A:=70000) (by omega) (by omega) b7 b8;obtain ⟨s1,s2⟩:=OD h;refine ⟨p1,p2,p3,p4,?_⟩
 unfold L2
 omega
theorem NC (b:Bar) (hw:b.w):Fun Tryz.prog 334 [.agg b.c] (AI (.tup [.agg [iL (OT b (Yf b)),iL (OT b (L2 b))],iL (Gw b)]) []):=by
 have hl:=F2 b;refine Fun.of (nt:=57) (rs:=[.cell 2 68, .tmp 3]) Tryz.func334 rfl rfl rfl rfl rfl (Ab fun _ z=>Aq (Bo _ true) (Aq (AT am_ze68) (Y Ad (Ac z (Ab fun _ z=>Y (A6 _ am_ag168 am_cl168) (Ay (hF:=SM _ (by assumption)) (h:=Y Aa (Y AH (Y AH (Y Ad (Y Ad (Ac z (Aj (Ab fun _ z=>Y Aa (Y Bn (Ac z (Bh (fun c1=>?_) (fun c1=>?_))))))))))))))))))
 ·refine Ab fun _ z=>Y (Bg _ am_ze68 am_pl68) (Y Aa (Ar _ true [_] am_in68 am_cl68 (h:=Y Ad (Ac z (Ai (D1 (Bp [_,_] am_ag68 am_cl68 (Db res_n)) (⟨?_,rfl⟩)))))));rw [Kv ‹_›,Kv ‹_›,M4 ‹_›]
 refine Am ?_;show Ev _ _ _ _;have hok:=Lg ‹Gw b=0›;have hlv:NQ b=BN b:=if_pos hok;have hz:=hok.2.1;obtain ⟨b1,b2,b3,b4,b5,b6,b7,b8,b9,b10⟩:=Ko hz;have e1:=Fv (v:=Ij b.size) hz;have e2:=Fv (v:=Ii b.size) hz;have e3:=IZ hz;obtain ⟨p1,p2,p3,p4,p5,p6⟩:=Ox hok;obtain ⟨s1,s2⟩:=OD hok;rw [hlv];refine Ab fun _ z=>Y Ad (Ac z (Aj (Ab fun _ z=>Y Aa (Y (A5 am_el24) (Y Aa (Ac z (Ev.block (AC (ι:={p:List (Int) × List (Int) // p.1 ++ p.2=(BN b)∧True}) [0,1] [1,2,4,20,21] (fun ⟨(pre,suf),_⟩=>[(22,iL (pre.length:Int)),(6,iL (1000 * BF pre))]) (fun ⟨(pre,suf),_⟩=>[(0,⟨false,168,5,[[sL (b.mark),iL (b.size),iL (b.count),iL (b.code), .sh 1 ((b.dims).map AD)]],true⟩),(1,⟨false,68,2,[[iL (0),iL (0)]],true⟩)]) (fun ⟨(pre,suf),_⟩=>suf.length) ⟨([],(BN b)),rfl,trivial⟩ (.c (.c (.c (.c (.c .n))))) (Ag (h:=(Ag))) (Ae (h:=(Ae))) ?_))))))));rintro ⟨⟨pre,suf⟩,hp,hinv⟩ R0 hR0;dsimp only [cA,nA,lC,lN]
 simp only at hp hinv
 have hpl:=BO hp
 rcases suf with _ | ⟨s,suf⟩
 ·rw [List.append_nil] at hp;simp only [lN] at hpl;refine Ab fun _ z=>Y As (Ac z (AG (fun c2=>?_) (fun c2=>?_)))
  ·omega
  refine AA (hR0 _ _ ?_);show Ev _ _ _ _;refine Ab fun _ z=>Y (An 1 am_fi168_1 am_cl3) (Y (Ao am_ag3) (Ay (hF:=N5 _) (h:=Y Aa (Y AH (Y AH (Aq (AT am_ze68) (Ar _ true [_,_] am_in68 am_cl68 (h:=Y Ad (Ac z (Aj ?_))))))))));rw [e3];refine Ab fun _ z=>Y Aa (Y Bn (Ac z (Bh (fun c3=>?_) (fun c3=>?_))))
  ·omega
  refine Am ?_;show Ev _ _ _ _;simp only [e1,e2];rw [hp];refine Ab fun _ z=>Y Aa (Y (A5 am_el24) (Y BK (Y Ad (Ac z (Ab fun _ z=>Y Aa (Y Aa (Y (An 1 am_fi68_1 am_cl3) (Y (Ao am_ag3) (Y BC (Y BK (Y Aa (Y Aa (Y (An 0 am_fi68_0 am_cl3) (Y (Ao am_ag3) (Y BC (Y BK (Y (Bg _ am_ze68 am_pl68) (Ar _ true [_,_] am_in68 am_cl68 (h:=Y Ad (Ac z (Ai (D1 (Bp [_,_] am_ag68 am_cl68 (Db res_n)) (⟨?_,rfl⟩)))))))))))))))))))))));rw [GN hok,GN hok,JV hok];rfl
 simp only [lC] at hpl;have hidx:=BM hp;have hsb:=M2 hok s (by rw [← hp];simp);obtain ⟨hs1,hs2⟩:=sumI_bd pre (fun n hn=>M2 hok n (by rw [← hp];simp [hn]));refine Ab fun _ z=>Y As (Ac z (AG (fun c4=>?_) (fun c4=>?_)))
 ·refine Aj (Ev.block (Ab fun _ z=>Y (AQ am_el24 am_cl3 (hl:=(by exact Ba hidx (by omega)))) (Y (AO am_ag3) (Y Ad (Ac z (Ah fun _ z=>Y Aa (Y Aa (Y BC (Y Ax (Y Ad (Ac z ?_)))))))))));show Ev _ _ _ _;refine Ah fun _ z=>Y Ax (Y Aa (Ac z (hR0 _ _ (A4 [0,1] [1,2,4,20,21] ⟨(pre ++ [s],suf),Bu hp,trivial⟩ B9 (Ag (h:=(Ag))) (Ae (he:=(by congr 2;simp)) (h:=(Ae (he:=(by congr 2;rw [Fu,show BF [s]=s by simp [BF]];omega))))) (.c (.c (.c (.c (.c .n)))))))))
 omega
def Ip (b:Bar):Int:=max 5 (5 * ((max 0 (L2 b)+5000 - 1) / 5000))
theorem Ou {b:Bar} (h:BU b):5≤Ip b∧Ip b≤1048576:=by
 obtain ⟨_,_,_,_,h1,h2⟩:=Ox h
 unfold Ip
 omega
theorem VJ (b:Bar) (hw:b.w):Fun Tryz.prog 230 [.agg b.c] (AI (.tup [iL (OT b (Ip b)),iL (Gw b)]) []):=by
 refine Fun.of (nt:=20) (rs:=[.tmp 2, .tmp 3]) Tryz.func230 rfl rfl rfl rfl rfl (Ab fun _ z=>Aq (Bo _ true) (Y Ad (Y Ad (Ac z (Ab fun _ z=>Y (A6 _ am_ag168 am_cl168) (Ay (hF:=NC _ (by assumption)) (h:=Y Aa (Y AH (Y AH (Aq (AT am_ze68) (Ar _ true [_] am_in68 am_cl68 (h:=Y Ad (Ac z (Aj (Ab fun _ z=>Y Aa (Y Bn (Ac z (Bh (fun c1=>?_) (fun c1=>?_)))))))))))))))))))
 ·refine Ab fun _ z=>Y Aa (Y Ad (Y Ad (Ac z (Ai (Cx (⟨?_,rfl⟩))))));rw [Kv ‹_›,M4 ‹_›]
 refine Am ?_;show Ev _ _ _ _;have hok:=Lg ‹Gw b=0›;obtain ⟨_,_,_,_,h1,h2⟩:=Ox hok;rw [GN hok,GN hok];refine Ab fun _ z=>Y (An 1 am_fi68_1 am_cl3) (Y (Ao am_ag3) (Y DE (Ay (hF:=TA _ _ (by omega) (by omega) (by omega) (by omega)) (h:=Y BC (Y DE (Y Ad (Y Ad (Ac z (Ai (Cx (⟨?_,rfl⟩)))))))))));rw [GN hok,JV hok];rfl
def NT (b:Bar):Int:=HV b.size (Ip b)
def Dy (b:Bar):Int:=b.count * NT b
theorem Hp {b:Bar} (h:BU b):0≤NT b∧NT b≤10343154∧0≤Dy b∧Dy b≤1000 * 10343154:=by
 obtain ⟨h1,h2⟩:=Ou h;obtain ⟨h3,h4⟩:=SN h.2.1 (by omega:0≤Ip b) h2;have h5:=h.2.2.1;have h6:=h.2.2.2.1;exact ⟨h3,h4,OL (by omega) h6 h3 h4⟩
theorem PA (b:Bar) (hw:b.w):Fun Tryz.prog 261 [.agg b.c] (AI (.tup [iL (OT b (Dy b)),iL (Gw b)]) []):=by
 refine Fun.of (nt:=29) (rs:=[.tmp 2, .tmp 3]) Tryz.func261 rfl rfl rfl rfl rfl (Ab fun _ z=>Aq (Bo _ true) (Y Ad (Y Ad (Ac z (Ab fun _ z=>Y (A6 _ am_ag168 am_cl168) (Ay (hF:=VJ _ (by assumption)) (h:=Y Aa (Y AH (Y AH (Y Ad (Y Ad (Ac z (Aj (Ab fun _ z=>Y Aa (Y Bn (Ac z (Bh (fun c1=>?_) (fun c1=>?_))))))))))))))))))
 ·refine Ab fun _ z=>Y Aa (Y Ad (Y Ad (Ac z (Ai (Cx (⟨?_,rfl⟩))))));rw [Kv ‹_›,M4 ‹_›]
 refine Am ?_;show Ev _ _ _ _;have hok:=Lg ‹Gw b=0›;obtain ⟨h1,h2⟩:=Ou hok;obtain ⟨h3,h4,h5,h6⟩:=Hp hok;have e1:Ib b.size (HV b.size (Ip b))=NT b:=Fv hok.2.1;have e2:=IZ hok.2.1;rw [GN (v:=Ip b) hok];refine Ab fun _ z=>Y (An 1 am_fi168_1 am_cl3) (Y (Ao am_ag3) (Y Aa (Ay (hF:=TR _ _ (by omega) (by omega)) (h:=Y Aa (Y AH (Y AH (Y Ad (Y Ad (Ac z (Aj ?_))))))))));rw [e2];refine Ab fun _ z=>Y Aa (Y Bn (Ac z (Bh (fun c2=>?_) (fun c2=>?_))))
 ·omega
 refine Am ?_;show Ev _ _ _ _;rw [e1];refine Ab fun _ z=>Y (An 2 am_fi168_2 am_cl3) (Y (Ao am_ag3) (Y Aa (Y (BC (h1:=by unfold Dy at h5;omega) (h2:=by unfold Dy at h6;omega)) (Y Ad (Y Ad (Ac z (Ai (Cx (⟨?_,rfl⟩)))))))));rw [GN hok,JV hok];rfl
def pntC:Int × Int × Int→List AV
 |(a,b,c)=>[iL a,iL b,iL c]
def BE (b:Bar):List (Int × Int × Int) :=
 if b.code=11 then [(AY b 0,0,0),(0,AY b 1,0)]
 else if b.code=21 then [(0,0 - AY b 0,0),(AY b 1,0,0),(0,AY b 2,0)]
 else if b.code=26 then [(AY b 0,0,0),(0,AY b 1,0),(AY b 2,0,0)]
 else if b.code=31 then [(AY b 0,0,0),(0,AY b 1,0),(0,0,AY b 2)]
 else if b.code=41 then [(AY b 0,0,0),(0,AY b 1,0),(AY b 2,0,0),(0,0 - AY b 3,0),(AY b 4,0,0)]
 else if b.code=51 then [(0,0 - AY b 2,0),(AY b 0,0,0),(0,AY b 1,0),(0 - AY b 0,0,0),(0,0 - AY b 1,0),(AY b 2,0,0)]
 else if b.code=98 then [(0,0,AY b 0),(0,0 - AY b 1,0),(AY b 2,0,0),(0,AY b 1,0),(0,0,AY b 0)]
 else [(AY b 0,0,0)]
def HB (n:Int):Int:=max n (0 - n)
def Gl (s:Int × Int × Int):Int:=HB s.1+HB s.2.1+HB s.2.2
theorem Gp {b:Bar} (h:BU b):(BE b).map Gl=BN b∧∀ s ∈ BE b, -262144≤s.1∧s.1≤262144∧ -262144≤s.2.1∧s.2.1≤262144∧ -262144≤s.2.2∧s.2.2≤262144:=by
 rcases Hq b.code with e | e | e | e | e | e | e | e | e
 ·obtain ⟨_,g0,f0⟩:=B2 h (i:=0) (by rw [e];decide)
  have e1:BE b=[(AY b 0,0,0)]:=by rw [BE,e];rfl
  have e2:BN b=[AY b 0]:=by rw [BN,e];rfl
  refine ⟨?_,?_⟩
  ·rw [e1,e2];simp only [List.map_cons,List.map_nil,Gl,HB,List.cons.injEq,and_true];omega
  rw [e1];intro s hs;simp only [List.mem_cons,List.not_mem_nil,or_false] at hs
  rcases hs with rfl <;> dsimp only <;> omega
 ·obtain ⟨_,g0,f0⟩:=B2 h (i:=0) (by rw [e];decide);obtain ⟨_,g1,f1⟩:=B2 h (i:=1) (by rw [e];decide)
  have e1:BE b=[(AY b 0,0,0),(0,AY b 1,0)]:=by rw [BE,e];rfl
  have e2:BN b=[AY b 0,AY b 1]:=by rw [BN,e];rfl
  refine ⟨?_,?_⟩
  ·rw [e1,e2];simp only [List.map_cons,List.map_nil,Gl,HB,List.cons.injEq,and_true];omega
  rw [e1];intro s hs;simp only [List.mem_cons,List.not_mem_nil,or_false] at hs
  rcases hs with rfl | rfl <;> dsimp only <;> omega
 ·obtain ⟨_,g0,f0⟩:=B2 h (i:=0) (by rw [e];decide);obtain ⟨_,g1,f1⟩:=B2 h (i:=1) (by rw [e];decide);obtain ⟨_,g2,f2⟩:=B2 h (i:=2) (by rw [e];decide)
  have e1:BE b=[(0,0 - AY b 0,0),(AY b 1,0,0),(0,AY b 2,0)]:=by rw [BE,e];rfl
  have e2:BN b=[AY b 0,AY b 1,AY b 2]:=by rw [BN,e];rfl
  refine ⟨?_,?_⟩
  ·rw [e1,e2];simp only [List.map_cons,List.map_nil,Gl,HB,List.cons.injEq,and_true];omega
  rw [e1];intro s hs;simp only [List.mem_cons,List.not_mem_nil,or_false] at hs
  rcases hs with rfl | rfl | rfl <;> dsimp only <;> omega
 ·obtain ⟨_,g0,f0⟩:=B2 h (i:=0) (by rw [e];decide);obtain ⟨_,g1,f1⟩:=B2 h (i:=1) (by rw [e];decide);obtain ⟨_,g2,f2⟩:=B2 h (i:=2) (by rw [e];decide)
  have e1:BE b=[(AY b 0,0,0),(0,AY b 1,0),(AY b 2,0,0)]:=by rw [BE,e];rfl
  have e2:BN b=[AY b 0,AY b 1,AY b 2]:=by rw [BN,e];rfl
  refine ⟨?_,?_⟩
  ·rw [e1,e2];simp only [List.map_cons,List.map_nil,Gl,HB,List.cons.injEq,and_true];omega
  rw [e1];intro s hs;simp only [List.mem_cons,List.not_mem_nil,or_false] at hs
  rcases hs with rfl | rfl | rfl <;> dsimp only <;> omega
 ·obtain ⟨_,g0,f0⟩:=B2 h (i:=0) (by rw [e];decide);obtain ⟨_,g1,f1⟩:=B2 h (i:=1) (by rw [e];decide);obtain ⟨_,g2,f2⟩:=B2 h (i:=2) (by rw [e];decide)
  have e1:BE b=[(AY b 0,0,0),(0,AY b 1,0),(0,0,AY b 2)]:=by rw [BE,e];rfl
  have e2:BN b=[AY b 0,AY b 1,AY b 2]:=by rw [BN,e];rfl
  refine ⟨?_,?_⟩
  ·rw [e1,e2];simp only [List.map_cons,List.map_nil,Gl,HB,List.cons.injEq,and_true];omega
  rw [e1];intro s hs;simp only [List.mem_cons,List.not_mem_nil,or_false] at hs
  rcases hs with rfl | rfl | rfl <;> dsimp only <;> omega
 ·obtain ⟨_,g0,f0⟩:=B2 h (i:=0) (by rw [e];decide);obtain ⟨_,g1,f1⟩:=B2 h (i:=1) (by rw [e];decide);obtain ⟨_,g2,f2⟩:=B2 h (i:=2) (by rw [e];decide);obtain ⟨_,g3,f3⟩:=B2 h (i:=3) (by rw [e];decide);obtain ⟨_,g4,f4⟩:=B2 h (i:=4) (by rw [e];decide)
  have e1:BE b=[(AY b 0,0,0),(0,AY b 1,0),(AY b 2,0,0),(0,0 - AY b 3,0),(AY b 4,0,0)]:=by rw [BE,e];rfl
  have e2:BN b=[AY b 0,AY b 1,AY b 2,AY b 3,AY b 4]:=by rw [BN,e];rfl
  refine ⟨?_,?_⟩
  ·rw [e1,e2];simp only [List.map_cons,List.map_nil,Gl,HB,List.cons.injEq,and_true];omega
  rw [e1];intro s hs;simp only [List.mem_cons,List.not_mem_nil,or_false] at hs
  rcases hs with rfl | rfl | rfl | rfl | rfl <;> dsimp only <;> omega
 ·obtain ⟨_,g0,f0⟩:=B2 h (i:=0) (by rw [e];decide);obtain ⟨_,g1,f1⟩:=B2 h (i:=1) (by rw [e];decide);obtain ⟨_,g2,f2⟩:=B2 h (i:=2) (by rw [e];decide)
  have e1:BE b=[(0,0 - AY b 2,0),(AY b 0,0,0),(0,AY b 1,0),(0 - AY b 0,0,0),(0,0 - AY b 1,0),(AY b 2,0,0)]:=by rw [BE,e];rfl
  have e2:BN b=[AY b 2,AY b 0,AY b 1,AY b 0,AY b 1,AY b 2]:=by rw [BN,e];rfl
  refine ⟨?_,?_⟩
  ·rw [e1,e2];simp only [List.map_cons,List.map_nil,Gl,HB,List.cons.injEq,and_true];omega
  rw [e1];intro s hs;simp only [List.mem_cons,List.not_mem_nil,or_false] at hs
  rcases hs with rfl | rfl | rfl | rfl | rfl | rfl <;> dsimp only <;> omega
 ·obtain ⟨_,g0,f0⟩:=B2 h (i:=0) (by rw [e];decide);obtain ⟨_,g1,f1⟩:=B2 h (i:=1) (by rw [e];decide);obtain ⟨_,g2,f2⟩:=B2 h (i:=2) (by rw [e];decide)
  have e1:BE b=[(0,0,AY b 0),(0,0 - AY b 1,0),(AY b 2,0,0),(0,AY b 1,0),(0,0,AY b 0)]:=by rw [BE,e];rfl
  have e2:BN b=[AY b 0,AY b 1,AY b 2,AY b 1,AY b 0]:=by rw [BN,e];rfl
  refine ⟨?_,?_⟩
  ·rw [e1,e2];simp only [List.map_cons,List.map_nil,Gl,HB,List.cons.injEq,and_true];omega
  rw [e1];intro s hs;simp only [List.mem_cons,List.not_mem_nil,or_false] at hs
  rcases hs with rfl | rfl | rfl | rfl | rfl <;> dsimp only <;> omega
 exact absurd (Dh e).2 h.2.2.2.2.1
theorem SQ (b:Bar) (hok:BU b):Fun Tryz.prog 435 [.agg b.c] (AI (.sh 3 ((BE b).map pntC)) []):=by
 have hd:∀ i:Nat,(i:Int) < CA b.code→b.dims[i]?= some (AY b i):=fun i hi=>(B2 hok hi).1;have hdb:∀ i:Nat,(i:Int) < CA b.code→1≤AY b i∧AY b i≤262144:=fun i hi=>(B2 hok hi).2;obtain ⟨d1,d2,d3,d4⟩:=H5 b.code;have hl:=hok.2.2.2.2.2.1;have hnz:=hok.2.2.2.2.1;refine Fun.of (nt:=148) (rs:=[.tmp 2]) Tryz.func435 rfl rfl rfl rfl rfl (Ab fun _ k=>Aq (Bo _ true) (Y Ad (Ac k (Ab fun _ k=>Y (An 4 am_fi168_4 am_cl24) (Y (Ao am_ag24) (Y Ad (Ac k (Aj (Ab fun _ k=>Y (An 3 am_fi168_3 am_cl3) (Y (Ao am_ag3) (Ac k (Ev.block (Ab fun _ k=>Y Bk (Y Ad (Ac k (Az (fun c1=>?_) (fun c1=>?_)))))))))))))))))
 ·have hN:CA b.code=2:=by rw [show b.code=11 by assumption];rfl
  have q0:=hdb 0 (by omega);have q1:=hdb 1 (by omega);refine BW (tbs [(0,0),(1,1),(2,3),(3,7),(0,0),(5,16),(6,48),(7,112),(8,255),(9,511)]) 9 fun _ k=>Ak Aa (Ak (AQ am_el24 am_cl3 (hl:=(by exact Ba (hd 0 (by omega)) (by omega)))) (Ak (AO am_ag3) (Ak (Bg _ am_ze56 am_pl56) (Ak Aa (Ak (AQ am_el24 am_cl3 (hl:=(by exact Ba (hd 1 (by omega)) (by omega)))) (Ak (AO am_ag3) (Ak (Bg _ am_ze56 am_pl56) (FQ [_] (Bf [[_,_,_],[_,_,_]] true am_el380 am_ze56 am_cl56) (h:=B3 [_,_] (h:=Y Ad (Ac k (Av (Wk.frzl (f:=pntC) [(⟨_,_,_⟩:Int × Int × Int),(⟨_,_,_⟩:Int × Int × Int)] 2 [_]) (Ai (Ap ?_))))))))))))))
  rw [BE,if_pos (show b.code=11 by assumption)] <;> rfl
 refine Ab fun _ k=>Y Bk (Y Ad (Ac k (Az (fun c2=>?_) (fun c2=>?_))))
 ·have hN:CA b.code=3:=by rw [show b.code=21 by assumption];rfl
  have q0:=hdb 0 (by omega);have q1:=hdb 1 (by omega);have q2:=hdb 2 (by omega);refine BW (tbs [(0,0),(1,1),(2,3),(3,7),(4,15),(0,0),(6,32),(7,96),(8,224),(0,0),(10,512),(11,1536),(12,3584),(13,8191),(14,16383)]) 14 fun _ k=>Ak Aa (Ak (AQ am_el24 am_cl3 (hl:=(by exact Ba (hd 0 (by omega)) (by omega)))) (Ak (AO am_ag3) (Ak F5 (Ak (Bg _ am_ze56 am_pl56) (Ak Aa (Ak (AQ am_el24 am_cl3 (hl:=(by exact Ba (hd 1 (by omega)) (by omega)))) (Ak (AO am_ag3) (Ak (Bg _ am_ze56 am_pl56) (Ak Aa (Ak (AQ am_el24 am_cl3 (hl:=(by exact Ba (hd 2 (by omega)) (by omega)))) (Ak (AO am_ag3) (Ak (Bg _ am_ze56 am_pl56) (FQ [_] (Bf [[_,_,_],[_,_,_],[_,_,_]] true am_el380 am_ze56 am_cl56) (h:=B3 [_,_] (h:=Y Ad (Ac k (Av (Wk.frzl (f:=pntC) [(⟨_,_,_⟩:Int × Int × Int),(⟨_,_,_⟩:Int × Int × Int),(⟨_,_,_⟩:Int × Int × Int)] 2 [_]) (Ai (Ap ?_)))))))))))))))))))
  rw [BE,if_neg (show ¬ b.code=11 by assumption),if_pos (show b.code=21 by assumption)] <;> rfl
 refine Ab fun _ k=>Y Bk (Y Ad (Ac k (Az (fun c3=>?_) (fun c3=>?_))))
 ·have hN:CA b.code=3:=by rw [show b.code=26 by assumption];rfl
  have q0:=hdb 0 (by omega);have q1:=hdb 1 (by omega);have q2:=hdb 2 (by omega);refine BW (tbs [(0,0),(1,1),(2,3),(3,7),(0,0),(5,16),(6,48),(7,112),(0,0),(9,256),(10,768),(11,1792),(12,4095),(13,8191)]) 13 fun _ k=>Ak Aa (Ak (AQ am_el24 am_cl3 (hl:=(by exact Ba (hd 0 (by omega)) (by omega)))) (Ak (AO am_ag3) (Ak (Bg _ am_ze56 am_pl56) (Ak Aa (Ak (AQ am_el24 am_cl3 (hl:=(by exact Ba (hd 1 (by omega)) (by omega)))) (Ak (AO am_ag3) (Ak (Bg _ am_ze56 am_pl56) (Ak Aa (Ak (AQ am_el24 am_cl3 (hl:=(by exact Ba (hd 2 (by omega)) (by omega)))) (Ak (AO am_ag3) (Ak (Bg _ am_ze56 am_pl56) (FQ [_] (Bf [[_,_,_],[_,_,_],[_,_,_]] true am_el380 am_ze56 am_cl56) (h:=B3 [_,_] (h:=Y Ad (Ac k (Av (Wk.frzl (f:=pntC) [(⟨_,_,_⟩:Int × Int × Int),(⟨_,_,_⟩:Int × Int × Int),(⟨_,_,_⟩:Int × Int × Int)] 2 [_]) (Ai (Ap ?_))))))))))))))))))
  rw [BE,if_neg (show ¬ b.code=11 by assumption),if_neg (show ¬ b.code=21 by assumption),if_pos (show b.code=26 by assumption)] <;> rfl
 refine Ab fun _ k=>Y Bk (Y Ad (Ac k (Az (fun c4=>?_) (fun c4=>?_))))
 ·have hN:CA b.code=3:=by rw [show b.code=31 by assumption];rfl
  have q0:=hdb 0 (by omega);have q1:=hdb 1 (by omega);have q2:=hdb 2 (by omega);refine BW (tbs [(0,0),(1,1),(2,3),(3,7),(0,0),(5,16),(6,48),(7,112),(0,0),(9,256),(10,768),(11,1792),(12,4095),(13,8191)]) 13 fun _ k=>Ak Aa (Ak (AQ am_el24 am_cl3 (hl:=(by exact Ba (hd 0 (by omega)) (by omega)))) (Ak (AO am_ag3) (Ak (Bg _ am_ze56 am_pl56) (Ak Aa (Ak (AQ am_el24 am_cl3 (hl:=(by exact Ba (hd 1 (by omega)) (by omega)))) (Ak (AO am_ag3) (Ak (Bg _ am_ze56 am_pl56) (Ak Aa (Ak (AQ am_el24 am_cl3 (hl:=(by exact Ba (hd 2 (by omega)) (by omega)))) (Ak (AO am_ag3) (Ak (Bg _ am_ze56 am_pl56) (FQ [_] (Bf [[_,_,_],[_,_,_],[_,_,_]] true am_el380 am_ze56 am_cl56) (h:=B3 [_,_] (h:=Y Ad (Ac k (Av (Wk.frzl (f:=pntC) [(⟨_,_,_⟩:Int × Int × Int),(⟨_,_,_⟩:Int × Int × Int),(⟨_,_,_⟩:Int × Int × Int)] 2 [_]) (Ai (Ap ?_))))))))))))))))))
  rw [BE,if_neg (show ¬ b.code=11 by assumption),if_neg (show ¬ b.code=21 by assumption),if_neg (show ¬ b.code=26 by assumption),if_pos (show b.code=31 by assumption)] <;> rfl
 refine Ab fun _ k=>Y Bk (Y Ad (Ac k (Az (fun c5=>?_) (fun c5=>?_))))
 ·have hN:CA b.code=5:=by rw [show b.code=41 by assumption];rfl
  have q0:=hdb 0 (by omega);have q1:=hdb 1 (by omega);have q2:=hdb 2 (by omega);have q3:=hdb 3 (by omega);have q4:=hdb 4 (by omega)
  refine BW (tbs [(0,0),(1,1),(2,3),(3,7),(0,0),(5,16),(6,48),(7,112),(0,0),(9,256),(10,768),(11,1792),(0,0),(13,4096),(14,12288),(15,28672),(16,61440),(0,0),(18,131072),(19,393216),(20,917504),(21,2097151),(22,4194303)]) 22 fun _ k=>Ak Aa (Ak (AQ am_el24 am_cl3 (hl:=(by exact Ba (hd 0 (by omega)) (by omega)))) (Ak (AO am_ag3) (Ak (Bg _ am_ze56 am_pl56) (Ak Aa (Ak (AQ am_el24 am_cl3 (hl:=(by exact Ba (hd 1 (by omega)) (by omega)))) (Ak (AO am_ag3) (Ak (Bg _ am_ze56 am_pl56) (Ak Aa (Ak (AQ am_el24 am_cl3 (hl:=(by exact Ba (hd 2 (by omega)) (by omega)))) (Ak (AO am_ag3) (Ak (Bg _ am_ze56 am_pl56) (Ak Aa (Ak (AQ am_el24 am_cl3 (hl:=(by exact Ba (hd 3 (by omega)) (by omega)))) (Ak (AO am_ag3) (Ak F5 (Ak (Bg _ am_ze56 am_pl56) (Ak Aa (Ak (AQ am_el24 am_cl3 (hl:=(by exact Ba (hd 4 (by omega)) (by omega)))) (Ak (AO am_ag3) (Ak (Bg _ am_ze56 am_pl56) (FQ [_] (Bf [[_,_,_],[_,_,_],[_,_,_],[_,_,_],[_,_,_]] true am_el380 am_ze56 am_cl56) (h:=B3 [_,_] (h:=Y Ad (Ac k (Av (Wk.frzl (f:=pntC) [(⟨_,_,_⟩:Int × Int × Int),(⟨_,_,_⟩:Int × Int × Int),(⟨_,_,_⟩:Int × Int × Int),(⟨_,_,_⟩:Int × Int × Int),(⟨_,_,_⟩:Int × Int × Int)] 2 [_]) (Ai (Ap ?_)))))))))))))))))))))))))))
  rw [BE,if_neg (show ¬ b.code=11 by assumption),if_neg (show ¬ b.code=21 by assumption),if_neg (show ¬ b.code=26 by assumption),if_neg (show ¬ b.code=31 by assumption),if_pos (show b.code=41 by assumption)] <;> rfl
 refine Ab fun _ k=>Y Bk (Y Ad (Ac k (Az (fun c6=>?_) (fun c6=>?_))))
 ·have hN:CA b.code=3:=by rw [show b.code=51 by assumption];rfl
  have q0:=hdb 0 (by omega);have q1:=hdb 1 (by omega);have q2:=hdb 2 (by omega)
  refine BW (tbs [(0,0),(1,1),(2,3),(3,7),(4,15),(0,0),(6,32),(7,96),(8,224),(0,0),(10,512),(11,1536),(12,3584),(0,0),(14,8192),(15,24576),(16,57344),(17,122880),(0,0),(19,262144),(20,786432),(21,1835008),(22,3932160),(0,0),(24,8388608),(25,25165824),(26,58720256),(27,134217727),(28,268435455)]) 28 fun _ k=>Ak Aa (Ak (AQ am_el24 am_cl3 (hl:=(by exact Ba (hd 2 (by omega)) (by omega)))) (Ak (AO am_ag3) (Ak F5 (Ak (Bg _ am_ze56 am_pl56) (Ak Aa (Ak (AQ am_el24 am_cl3 (hl:=(by exact Ba (hd 0 (by omega)) (by omega)))) (Ak (AO am_ag3) (Ak (Bg _ am_ze56 am_pl56) (Ak Aa (Ak (AQ am_el24 am_cl3 (hl:=(by exact Ba (hd 1 (by omega)) (by omega)))) (Ak (AO am_ag3) (Ak (Bg _ am_ze56 am_pl56) (Ak Aa (Ak (AQ am_el24 am_cl3 (hl:=(by exact Ba (hd 0 (by omega)) (by omega)))) (Ak (AO am_ag3) (Ak F5 (Ak (Bg _ am_ze56 am_pl56) (Ak Aa (Ak (AQ am_el24 am_cl3 (hl:=(by exact Ba (hd 1 (by omega)) (by omega)))) (Ak (AO am_ag3) (Ak F5 (Ak (Bg _ am_ze56 am_pl56) (Ak Aa (Ak (AQ am_el24 am_cl3 (hl:=(by exact Ba (hd 2 (by omega)) (by omega)))) (Ak (AO am_ag3) (Ak (Bg _ am_ze56 am_pl56) (FQ [_] (Bf [[_,_,_],[_,_,_],[_,_,_],[_,_,_],[_,_,_],[_,_,_]] true am_el380 am_ze56 am_cl56) (h:=B3 [_,_] (h:=Y Ad (Ac k (Av (Wk.frzl (f:=pntC) [(⟨_,_,_⟩:Int × Int × Int),(⟨_,_,_⟩:Int × Int × Int),(⟨_,_,_⟩:Int × Int × Int),(⟨_,_,_⟩:Int × Int × Int),(⟨_,_,_⟩:Int × Int × Int),(⟨_,_,_⟩:Int × Int × Int)] 2 [_]) (Ai (Ap ?_)))))))))))))))))))))))))))))))))
  rw [BE,if_neg (show ¬ b.code=11 by assumption),if_neg (show ¬ b.code=21 by assumption),if_neg (show ¬ b.code=26 by assumption),if_neg (show ¬ b.code=31 by assumption),if_neg (show ¬ b.code=41 by assumption),if_pos (show b.code=51 by assumption)] <;> rfl
 refine Ab fun _ k=>Y Bk (Y Ad (Ac k (Az (fun c7=>?_) (fun c7=>?_))))
 ·have hN:CA b.code=3:=by rw [show b.code=98 by assumption];rfl
  have q0:=hdb 0 (by omega);have q1:=hdb 1 (by omega);have q2:=hdb 2 (by omega)
  refine BW (tbs [(0,0),(1,1),(2,3),(3,7),(0,0),(5,16),(6,48),(7,112),(8,240),(0,0),(10,512),(11,1536),(12,3584),(0,0),(14,8192),(15,24576),(16,57344),(0,0),(18,131072),(19,393216),(20,917504),(21,2097151),(22,4194303)]) 22 fun _ k=>Ak Aa (Ak (AQ am_el24 am_cl3 (hl:=(by exact Ba (hd 0 (by omega)) (by omega)))) (Ak (AO am_ag3) (Ak (Bg _ am_ze56 am_pl56) (Ak Aa (Ak (AQ am_el24 am_cl3 (hl:=(by exact Ba (hd 1 (by omega)) (by omega)))) (Ak (AO am_ag3) (Ak F5 (Ak (Bg _ am_ze56 am_pl56) (Ak Aa (Ak (AQ am_el24 am_cl3 (hl:=(by exact Ba (hd 2 (by omega)) (by omega)))) (Ak (AO am_ag3) (Ak (Bg _ am_ze56 am_pl56) (Ak Aa (Ak (AQ am_el24 am_cl3 (hl:=(by exact Ba (hd 1 (by omega)) (by omega)))) (Ak (AO am_ag3) (Ak (Bg _ am_ze56 am_pl56) (Ak Aa (Ak (AQ am_el24 am_cl3 (hl:=(by exact Ba (hd 0 (by omega)) (by omega)))) (Ak (AO am_ag3) (Ak (Bg _ am_ze56 am_pl56) (FQ [_] (Bf [[_,_,_],[_,_,_],[_,_,_],[_,_,_],[_,_,_]] true am_el380 am_ze56 am_cl56) (h:=B3 [_,_] (h:=Y Ad (Ac k (Av (Wk.frzl (f:=pntC) [(⟨_,_,_⟩:Int × Int × Int),(⟨_,_,_⟩:Int × Int × Int),(⟨_,_,_⟩:Int × Int × Int),(⟨_,_,_⟩:Int × Int × Int),(⟨_,_,_⟩:Int × Int × Int)] 2 [_]) (Ai (Ap ?_)))))))))))))))))))))))))))
  rw [BE,if_neg (show ¬ b.code=11 by assumption),if_neg (show ¬ b.code=21 by assumption),if_neg (show ¬ b.code=26 by assumption),if_neg (show ¬ b.code=31 by assumption),if_neg (show ¬ b.code=41 by assumption),if_neg (show ¬ b.code=51 by assumption),if_pos (show b.code=98 by assumption)] <;> rfl
 refine Am (Ab fun _ k=>Y Aa (Y (AQ am_el24 am_cl3 (hl:=(by exact Ba (hd 0 (by omega)) (by omega)))) (Y (AO am_ag3) (Y (Bg _ am_ze56 am_pl56) (Aq (Bf [[_,_,_]] true am_el380 am_ze56 am_cl56) (Y Ad (Ac k (Av (Wk.frzl (f:=pntC) [(⟨_,_,_⟩:Int × Int × Int)] 2 [_]) (Ai (Ap ?_))))))))))
 rw [BE,if_neg (show ¬ b.code=11 by assumption),if_neg (show ¬ b.code=21 by assumption),if_neg (show ¬ b.code=26 by assumption),if_neg (show ¬ b.code=31 by assumption),if_neg (show ¬ b.code=41 by assumption),if_neg (show ¬ b.code=51 by assumption),if_neg (show ¬ b.code=98 by assumption)] <;> rfl
abbrev P3:=Int × Int × Int
structure Rn where
 mark:List UInt8
 tx:Int
 ty:Int
 ax:Int
 ay:Int
 az:Int
 sx:Int
 sy:Int
 sz:Int
 n:Int
def Rn.c:Rn→List AV
 |⟨m,a,b,c,d,e,f,g,h,n⟩=>[sL m,iL a,iL b,iL c,iL d,iL e,iL f,iL g,iL h,iL n]
def Rn.at (r:Rn):P3:=(r.ax,r.ay,r.az)
def Rn.st (r:Rn):P3:=(r.sx,r.sy,r.sz)
def Fc (n:Int):Prop:=n≠0∧ -3≤n∧n≤3
instance (n):Decidable (Fc n):=by unfold Fc;infer_instance
def Ch (x y:Int):Prop:=Fc x∧Fc y∧x≠y∧x≠ -y
instance (x y):Decidable (Ch x y):=by unfold Ch;infer_instance
def uV (n i:Int):Int:=if n=i then 1 else if n= -i then -1 else 0
theorem D0 (n i:Int): -1≤uV n i∧uV n i≤1:=by
 unfold uV
 split
 ·omega
 split <;> omega
theorem CR {a b A B:Int} (ha: -A≤a∧a≤A) (hb: -B≤b∧b≤B): -(A * B)≤a * b∧a * b≤A * B:=by
 have hA:0≤A:=by omega
 have hB:0≤B:=by omega
 rcases Int.le_total 0 a with h | h <;> rcases Int.le_total 0 b with h' | h'
 ·have h1:=Int.mul_le_mul ha.2 hb.2 h' hA;have h2:=Int.mul_nonneg h h';have h3:=Int.mul_nonneg hA hB;omega
 ·have h1:=Int.mul_le_mul ha.2 (show -b≤B by omega) (by omega) hA;have h2:=Int.mul_nonneg h (show 0≤ -b by omega);have h3:=Int.mul_nonneg hA hB;rw [Int.mul_neg] at h1 h2;omega
 ·have h1:=Int.mul_le_mul (show -a≤A by omega) hb.2 h' hA;have h2:=Int.mul_nonneg (show 0≤ -a by omega) h';have h3:=Int.mul_nonneg hA hB;rw [Int.neg_mul] at h1 h2;omega
 have h1:=Int.mul_le_mul (show -a≤A by omega) (show -b≤B by omega) (by omega) hA;have h2:=Int.mul_nonneg (show 0≤ -a by omega) (show 0≤ -b by omega);have h3:=Int.mul_nonneg hA hB;rw [Int.neg_mul_neg] at h1 h2;omega
def Hk (x y:Int):Int:=uV x 2 * uV y 3 - uV x 3 * uV y 2
def Hl (x y:Int):Int:=uV x 3 * uV y 1 - uV x 1 * uV y 3
def Hm (x y:Int):Int:=uV x 1 * uV y 2 - uV x 2 * uV y 1
theorem Vm (x y:Int):(-2≤Hk x y∧Hk x y≤2)∧(-2≤Hl x y∧Hl x y≤2)∧ -2≤Hm x y∧Hm x y≤2:=by
 have h:∀ i j:Int, -1≤uV x i * uV y j∧uV x i * uV y j≤1:=fun i j=>by
  have:=CR (D0 x i) (D0 y j);omega
 have h1:=h 2 3;have h2:=h 3 2;have h3:=h 3 1;have h4:=h 1 3;have h5:=h 1 2;have h6:=h 2 1
 unfold Hk Hl Hm
 omega
def Cq (p:P3):Prop:=(-1048576≤p.1∧p.1≤1048576)∧(-1048576≤p.2.1∧p.2.1≤1048576)∧ -1048576≤p.2.2∧p.2.2≤1048576
instance (p):Decidable (Cq p):=by unfold Cq;infer_instance
def DV (l:List P3):Prop:=∀ p ∈ l,Cq p
instance (l):Decidable (DV l):=by unfold DV;infer_instance
def Ei (x y:Int) (p:P3):P3:=(uV x 1 * p.1+uV y 1 * p.2.1+Hk x y * p.2.2,uV x 2 * p.1+uV y 2 * p.2.1+Hl x y * p.2.2,uV x 3 * p.1+uV y 3 * p.2.1+Hm x y * p.2.2)
theorem FM {x y:Int} {p:P3} (h:Cq p) (i:Int):(-1048576≤uV x i * p.1∧uV x i * p.1≤1048576)∧(-1048576≤uV y i * p.2.1∧uV y i * p.2.1≤1048576):=by
 have h1:=CR (D0 x i) h.1;have h2:=CR (D0 y i) h.2.1;omega
theorem L8 {x y:Int} {p:P3} (h:Cq p):(-2097152≤Hk x y * p.2.2∧Hk x y * p.2.2≤2097152)∧(-2097152≤Hl x y * p.2.2∧Hl x y * p.2.2≤2097152)∧ -2097152≤Hm x y * p.2.2∧Hm x y * p.2.2≤2097152:=by
 obtain ⟨g1,g2,g3⟩:=Vm x y;have h1:=CR g1 h.2.2;have h2:=CR g2 h.2.2;have h3:=CR g3 h.2.2;omega
def C8 (p q:P3):P3:=(p.1+q.1,p.2.1+q.2.1,p.2.2+q.2.2)
def JJ (x y:Int) (at_:P3) (l:List P3):Int:=if Ch x y then (if l.length≤1000 then (if Cq at_∧DV l then 0 else 2) else 4) else 1
def MW (x y:Int) (at_:P3) (l:List P3):List P3:=if JJ x y at_ l=0 then l.map (fun p=>C8 at_ (Ei x y p)) else []
theorem WZ {x y:Int} {at_:P3} {l:List P3} (h:¬ Ch x y):JJ x y at_ l=1∧MW x y at_ l=[]:=by
 have e:JJ x y at_ l=1:=if_neg h;exact ⟨e,if_neg (by omega)⟩
theorem Xa {x y:Int} {at_:P3} {l:List P3} (h:Ch x y) (h2:¬ l.length≤1000):JJ x y at_ l=4∧MW x y at_ l=[]:=by
 have e:JJ x y at_ l=4:=(if_pos h).trans (if_neg h2);exact ⟨e,if_neg (by omega)⟩
theorem QZ {x y:Int} {at_:P3} {l:List P3} (h:Ch x y) (h2:l.length≤1000) (h3:¬ (Cq at_∧DV l)):JJ x y at_ l=2∧MW x y at_ l=[]:=by
 have e:JJ x y at_ l=2:=((if_pos h).trans (if_pos h2)).trans (if_neg h3);exact ⟨e,if_neg (by omega)⟩
theorem Ue {x y:Int} {at_:P3} {l:List P3} (h:Ch x y) (h2:l.length≤1000) (h3:Cq at_∧DV l):JJ x y at_ l=0∧MW x y at_ l=l.map (fun p=>C8 at_ (Ei x y p)):=by
 have e:JJ x y at_ l=0:=((if_pos h).trans (if_pos h2)).trans (if_pos h3);exact ⟨e,if_pos e⟩
def DI (b:Bar) (p:P3) (s:Int × Int):P3 :=
 if s.2=120 then (p.1+AY b s.1.toNat,p.2) else if s.2=88 then (p.1 - AY b s.1.toNat,p.2) else if s.2=121 then (p.1,p.2.1+AY b s.1.toNat,p.2.2)
 else if s.2=89 then (p.1,p.2.1 - AY b s.1.toNat,p.2.2) else if s.2=122 then (p.1,p.2.1,p.2.2+AY b s.1.toNat) else p
def EA (b:Bar) (l:List (Int × Int)):P3:=l.foldl (DI b) (0,0,0)
def Dj (b:Bar):List (Int × Int)→P3→List P3
 |[],p=>[p]
 |s :: l,p=>p :: Dj b l (DI b p s)
theorem MU (b:Bar) (l:List (Int × Int)) (s:Int × Int):EA b (l ++ [s])=DI b (EA b l) s:=by simp [EA]
theorem LO (b:Bar) (s:Int × Int):∀ (l:List (Int × Int)) (p:P3),Dj b (l ++ [s]) p=Dj b l p ++ [DI b (l.foldl (DI b) p) s]
 |[],p=>rfl
 |t :: l,p=>by rw [List.cons_append,Dj,LO b s l,Dj];rfl
theorem FX (b:Bar):∀ (l:List (Int × Int)) (p:P3),(Dj b l p).length=l.length+1
 |[],_=>rfl
 |t :: l,p=>by rw [Dj,List.length_cons,FX b l,List.length_cons]
def Du (b:Bar):List P3:=Dj b (Cp b.code) (0,0,0)
def Ia (b:Bar):List P3:=if BU b then Du b else []
theorem SJ (k:Int):(Cp k).length≤6:=by
 unfold Cp
 repeat' split
 all_goals decide
theorem Li (b:Bar):(Ia b).length≤7:=by
 unfold Ia
 split
 ·have:=SJ b.code;rw [Du,FX];omega
 simp
def Bl (p:P3) (m:Int):Prop:=(-m≤p.1∧p.1≤m)∧(-m≤p.2.1∧p.2.1≤m)∧ -m≤p.2.2∧p.2.2≤m
instance (p m):Decidable (Bl p m):=by unfold Bl;infer_instance
def D6 (p s:P3) (k:Int):P3:=(p.1+k * s.1,p.2.1+k * s.2.1,p.2.2+k * s.2.2)
def Cy (bars:List Bar) (mk:List UInt8):Bar:=(bars[(CE bars mk).toNat]?).getD ⟨[],0,0,0,[]⟩
def B6 (bars:List Bar) (r:Rn):List P3:=MW r.tx r.ty (0,0,0) (Ia (Cy bars r.mark))
def DG (r:Rn) (k:Int) (p:P3):P3:=if k > 0 then D6 (D6 p r.at 1) r.st k else D6 p r.at 1
def Dv (bars:List Bar) (r:Rn):Prop :=
 0≤CE bars r.mark∧Ch r.tx r.ty∧(1≤r.n∧r.n≤1000)∧Bl r.at 1048576∧(r.n > 1→¬ (r.sx=0∧r.sy=0∧r.sz=0)∧Bl r.st 2097152) ∧
  (∀ p ∈ B6 bars r,Bl (DG r 0 p) 1048576)∧∀ p ∈ B6 bars r,Bl (DG r (r.n - 1) p) 1048576
instance (bars r):Decidable (Dv bars r):=by unfold Dv;infer_instance
def AR (runs:List Rn):Int:=(runs.map (·.n)).sum
def Dw (l:List Rn):Prop:=∀ r ∈ l,r.mark.length≤140737488355328
def BV (bars:List Bar) (runs:List Rn):Prop:=CY bars∧runs.length≤60∧(∀ r ∈ runs,Dv bars r)∧AR runs≤2000
instance (bars runs):Decidable (BV bars runs):=by unfold BV;infer_instance
def Jd (n:Int):Prop:= -1048576≤n∧n≤1048576
instance (n):Decidable (Jd n):=by unfold Jd;infer_instance
theorem No (n:Int):Fun Tryz.prog 147 [iL n] (AI (bL (decide (Jd n))) []):=by
 refine Fun.of (nt:=9) (rs:=[.tmp 2]) Tryz.func147 rfl rfl rfl rfl rfl (Ab fun _ k=>Y Ad (Ac k (Ab fun _ k=>Y Aa (Y BR (AS Aa (fun c1=>?_) (fun c1=>?_))))))
 ·refine Y Aa (Y Cb (Y AF (Y Ad (Ac k (Ai (Ap ?_))))));exact dI (by unfold Jd;omega)
 refine Au (Y AE (Y Ad (Ac k (Ai (Ap ?_)))));exact bF (by unfold Jd;omega)
structure Bx where
 lx:Int
 ly:Int
 lz:Int
 hx:Int
 hy:Int
 hz:Int
def Bx.c:Bx→List AV
 |⟨a,b,c,d,e,f⟩=>[iL a,iL b,iL c,iL d,iL e,iL f]
def Cg (b:Bx):Prop:=(b.lx≤b.hx∧ -1048576≤b.lx∧b.hx≤1048576)∧(b.ly≤b.hy∧ -1048576≤b.ly∧b.hy≤1048576)∧(b.lz≤b.hz∧ -1048576≤b.lz∧b.hz≤1048576)
instance (b):Decidable (Cg b):=by unfold Cg;infer_instance
def IK (a b c:Int) (k:Nat):Int:=if k=0 then a else if k=1 then b else c
def FW (b:Bx) (k:Nat):Int:=IK b.lx b.ly b.lz k
def Hn (b:Bx) (k:Nat):Int:=IK b.hx b.hy b.hz k
def Lf (b:Bx) (k:Nat):Prop:=FW b k≤Hn b k∧ -1048576≤FW b k∧Hn b k≤1048576
theorem M3 (b:Bx):Cg b↔∀ k,k < 3→Lf b k:=by
 constructor
 ·rintro ⟨h1,h2,h3⟩ k hk
  match k,hk with
  |0,_=>exact h1
  |1,_=>exact h2
  |2,_=>exact h3
 intro h;exact ⟨h 0 (by decide),h 1 (by decide),h 2 (by decide)⟩
theorem VB {b:Bx} {k:Nat} (h:∀ j,j < k→Lf b j) (h1:Lf b k):∀ j,j < k+1→Lf b j:=fun j hj=>by
 by_cases e:j=k
 ·subst e;exact h1
 ·exact h j (by omega)
theorem Fx (a b c:Int):Fun Tryz.prog 399 [.agg [iL a,iL b,iL c]] (AI (.agg [iL a,iL b,iL c]) []):=by
 refine Fun.of (nt:=10) (rs:=[.cell 2 460]) Tryz.func399 rfl rfl rfl rfl rfl (Ab fun _ z=>Aq (Bo _ true) (Aq (AT am_ze460) (Ac z (Ab fun _ z=>Y (An 0 am_fi56_0 am_cl3) (Y (Ao am_ag3) (Y (An 1 am_fi56_1 am_cl3) (Y (Ao am_ag3) (Y (An 2 am_fi56_2 am_cl3) (Y (Ao am_ag3) (Y (DW [_,_,_] am_ze460 am_pn460 am_ar460 am_cl3) (Ar _ true [_] am_in460 am_cl460 (h:=Ac z (Ai (B1 (Bp [_,_,_] am_ag460 am_cl460 res_n) (⟨?_,rfl⟩)))))))))))))));rfl
theorem Sz (b:Bx):Fun Tryz.prog 308 [.agg b.c,iL 0] (AI (.tup [iL b.lx,iL b.hx]) []):=by
 refine Fun.of (nt:=16) (rs:=[.tmp 4, .tmp 5]) Tryz.func308 rfl rfl rfl rfl rfl (Ab fun _ z=>Aq (Bo _ true) (Y Ad (Y Ad (Ac z (Av (Wk.forget [4]) (BW (tbs [(0,0),(1,1),(2,3),(0,0),(4,15),(0,0),(6,32),(7,103),(0,0),(9,487),(8,255),(11,2047)]) 11 fun _ z=>Ak (An 0 am_fi58_0 am_cl56) (Ak (A6 _ am_ag56 am_cl56) (Cc (hF:=Fx _ _ _) (h:=Ak Aa (Ak (Hx am_ar460 am_ag3 am_cl3) (Ak (An 3 am_fi58_1 am_cl56) (Ak (A6 _ am_ag56 am_cl56) (Cc (hF:=Fx _ _ _) (h:=Ak Aa (Ak (Hx am_ar460 am_ag3 am_cl3) (Ak Ad (B3 [_] (h:=Y Ad (Ac z (Ai (Cd ?_)))))))))))))))))))));rfl
theorem S1 (b:Bx):Fun Tryz.prog 308 [.agg b.c,iL 1] (AI (.tup [iL b.ly,iL b.hy]) []):=by
 refine Fun.of (nt:=16) (rs:=[.tmp 4, .tmp 5]) Tryz.func308 rfl rfl rfl rfl rfl (Ab fun _ z=>Aq (Bo _ true) (Y Ad (Y Ad (Ac z (Av (Wk.forget [4]) (BW (tbs [(0,0),(1,1),(2,3),(0,0),(4,15),(0,0),(6,32),(7,103),(0,0),(9,487),(8,255),(11,2047)]) 11 fun _ z=>Ak (An 0 am_fi58_0 am_cl56) (Ak (A6 _ am_ag56 am_cl56) (Cc (hF:=Fx _ _ _) (h:=Ak Aa (Ak (Hx am_ar460 am_ag3 am_cl3) (Ak (An 3 am_fi58_1 am_cl56) (Ak (A6 _ am_ag56 am_cl56) (Cc (hF:=Fx _ _ _) (h:=Ak Aa (Ak (Hx am_ar460 am_ag3 am_cl3) (Ak Ad (B3 [_] (h:=Y Ad (Ac z (Ai (Cd ?_)))))))))))))))))))));rfl
theorem S2 (b:Bx):Fun Tryz.prog 308 [.agg b.c,iL 2] (AI (.tup [iL b.lz,iL b.hz]) []):=by
 refine Fun.of (nt:=16) (rs:=[.tmp 4, .tmp 5]) Tryz.func308 rfl rfl rfl rfl rfl (Ab fun _ z=>Aq (Bo _ true) (Y Ad (Y Ad (Ac z (Av (Wk.forget [4]) (BW (tbs [(0,0),(1,1),(2,3),(0,0),(4,15),(0,0),(6,32),(7,103),(0,0),(9,487),(8,255),(11,2047)]) 11 fun _ z=>Ak (An 0 am_fi58_0 am_cl56) (Ak (A6 _ am_ag56 am_cl56) (Cc (hF:=Fx _ _ _) (h:=Ak Aa (Ak (Hx am_ar460 am_ag3 am_cl3) (Ak (An 3 am_fi58_1 am_cl56) (Ak (A6 _ am_ag56 am_cl56) (Cc (hF:=Fx _ _ _) (h:=Ak Aa (Ak (Hx am_ar460 am_ag3 am_cl3) (Ak Ad (B3 [_] (h:=Y Ad (Ac z (Ai (Cd ?_)))))))))))))))))))));rfl
theorem EB (b:Bx) (k:Nat) (hk:k < 3):Fun Tryz.prog 308 [.agg b.c,iL (k:Int)] (AI (.tup [iL (FW b k),iL (Hn b k)]) []):=by
 match k,hk with
 |0,_=>exact Sz b
 |1,_=>exact S1 b
 |2,_=>exact S2 b
theorem Fe (b:Bx):Fun Tryz.prog 191 [.agg b.c] (AI (bL (decide (Cg b))) []):=by
 have hax:=M3 b;refine Fun.of (nt:=27) (rs:=[.tmp 2]) Tryz.func191 rfl rfl rfl rfl rfl (Ab fun _ z=>Aq (Bo _ true) (Y Ad (Ac z (Aj (Ab fun _ z=>Y Aa (Ac z (Ev.block (AC (ι:={k:Nat // k≤3∧∀ j,j < k→Lf b j}) [0] [1] (fun ⟨k,_⟩=>[(6,iL (k:Int))]) (fun ⟨k,_⟩=>[(0,⟨false,58,6,[[iL (b.lx),iL (b.ly),iL (b.lz),iL (b.hx),iL (b.hy),iL (b.hz)]],true⟩)]) (fun ⟨k,_⟩=>3 - k) ⟨0,by decide,fun j hj=>absurd hj (by omega)⟩ (.c .n) (Ag) (Ae) ?_))))))));rintro ⟨k,hk,hinv⟩ R0 hR0;dsimp only [cA,nA,lC,lN]
 by_cases hk3:k < 3
 rotate_left
 ·obtain rfl:k=3:=by omega
  refine Ab fun _ z=>Y As (Ac z (AG (fun c1=>?_) (fun c1=>?_)))
  ·omega
  refine AA (hR0 _ _ (Ab fun _ z=>Y Ad (Ac z (Ai (Ap ?_)))));exact bT (hax.2 hinv)
 have hax3:Lf b k↔FW b k≤Hn b k∧ -1048576≤FW b k∧Hn b k≤1048576:=Iff.rfl;refine Ab fun _ z=>Y As (Ac z (AG (fun c2=>?_) (fun c2=>?_)))
 ·refine Aj (Ev.block (Ab fun _ z=>Y Aa (Y Ad (Ac z (Ab fun _ z=>Y (A6 _ am_ag58 am_cl58) (Y Aa (Ay (hF:=EB b k hk3) (h:=Y Aa (Y AH (Y AH (Y Ad (Y Ad (Ac z (Ab fun _ z=>Y Aa (Y Aa (Y Be (AS Aa (fun c3=>?_) (fun c3=>?_))))))))))))))))))
  ·refine Au (Y AF (Y Aa (Au (Y AF (Ac z (BI (Ab fun _ z=>Y Ad (Ac z (Ai (hR0 _ _ (Ap ?_)))))))))));exact bF (fun h=>by have h1:=hax3.1 (hax.1 h k hk3);omega)
  refine Y Aa (Y As (Y AE (AS Aa (fun c4=>?_) (fun c4=>?_))))
  ·refine Au (Y AF (Ac z (BI (Ab fun _ z=>Y Ad (Ac z (Ai (hR0 _ _ (Ap ?_))))))));exact bF (fun h=>by have h1:=hax3.1 (hax.1 h k hk3);omega)
  refine Y Aa (Y Be (Y AE (Ac z (Az (fun c5=>?_) (fun c5=>?_)))))
  ·refine Ab fun _ z=>Y Ad (Ac z (Ai (hR0 _ _ (Ap ?_))));exact bF (fun h=>by have h1:=hax3.1 (hax.1 h k hk3);omega)
  refine Am (Ah fun _ z=>Y Ax (Y Aa (Ac z (hR0 _ _ (A4 [0] [1] ⟨k+1,by omega,VB hinv (hax3.2 (by omega))⟩ ?_ (Ag) (Ae) (.c .n))))));skip;all_goals (dsimp only;omega)
 omega
theorem dN {p r:Prop} [Decidable p] [Decidable r] (h:¬ p↔r):bL (!decide p)=bL (decide r):=by
 by_cases hp:p
 ·rw [decide_eq_true hp,decide_eq_false (fun h2=>h.2 h2 hp)];rfl
 rw [decide_eq_false hp,decide_eq_true (h.1 hp)];rfl
theorem Oj (n:Int):Fun Tryz.prog 429 [iL n] (AI (bL (decide (Fc n))) []):=by
 refine Fun.of (nt:=13) (rs:=[.tmp 2]) Tryz.func429 rfl rfl rfl rfl rfl (Ab fun _ z=>Y Ad (Ac z (Ab fun _ z=>Y Aa (Y Bn (Dc Aa (fun c1=>?_) (fun c1=>?_))))))
 ·refine Y Aa (Y BR (Y AF (AS Aa (fun c2=>?_) (fun c2=>?_))))
  ·refine Y Aa (Y Cb (Y AF (Y Ad (Ac z (Ai (Ap ?_))))));exact dI ⟨fun h=>⟨by omega,by omega,by omega⟩,fun h=>by unfold Fc at h;omega⟩
  refine Au (Y AE (Y Ad (Ac z (Ai (Ap ?_)))));exact bF (fun h=>by unfold Fc at h;omega)
 refine Au (Y AE (Y Aa (Au (Y AE (Y Ad (Ac z (Ai (Ap ?_))))))));exact bF (fun h=>by unfold Fc at h;omega)
theorem J6 (x y:Int):Fun Tryz.prog 359 [.agg [iL x,iL y]] (AI (bL (decide (Ch x y))) []):=by
 refine Fun.of (nt:=26) (rs:=[.tmp 2]) Tryz.func359 rfl rfl rfl rfl rfl (Ab fun _ z=>Aq (Bo _ true) (Y Ad (Ac z (Ab fun _ z=>Y (An 0 am_fi192_0 am_cl3) (Y (Ao am_ag3) (Ay (hF:=Oj x) (h:=AS Aa (fun c1=>?_) (fun c1=>?_))))))))
 ·refine Y (An 1 am_fi192_1 am_cl3) (Y (Ao am_ag3) (Ay (hF:=Oj y) (h:=Y AF (AS Aa (fun c2=>?_) (fun c2=>?_)))))
  ·refine Y (An 0 am_fi192_0 am_cl3) (Y (Ao am_ag3) (Y (An 1 am_fi192_1 am_cl3) (Y (Ao am_ag3) (Y Bn (Y AF (Dc Aa (fun c3=>?_) (fun c3=>?_)))))))
   ·refine Y (An 0 am_fi192_0 am_cl3) (Y (Ao am_ag3) (Y (An 1 am_fi192_1 am_cl3) (Y (Ao am_ag3) ?_)));have hy3:= ‹Fc y›
    unfold Fc at hy3
    refine Y F5 (Y Bn (Y AF (Y Ad (Ac z (Ai (Ap ?_))))));exact dN ⟨fun h=>⟨‹_›, ‹_›, ‹_›,fun e=>h (by omega)⟩,fun h e=>h.2.2.2 (by omega)⟩
   refine Au (Au (Au (Y AE (Y Ad (Ac z (Ai (Ap ?_)))))));exact bF (fun h=>absurd ‹x=y› h.2.2.1)
  refine Au (Au (Bq (Y AE (Y Aa (Au (Au (Au (Y AE (Y Ad (Ac z (Ai (Ap ?_))))))))))));exact bF (fun h=>absurd h.2.1 ‹_›)
 refine Au (Bq (Y AE (Y Aa (Au (Au (Bq (Y AE (Y Aa (Au (Au (Au (Y AE (Y Ad (Ac z (Ai (Ap ?_))))))))))))))));exact bF (fun h=>absurd h.1 ‹_›)
theorem unit_p1:Fun Tryz.prog 480 [iL (1)] (AI (.agg [iL (1),iL (0),iL (0)]) []):=by
 refine Fun.of (nt:=14) (rs:=[.cell 2 460]) Tryz.func480 rfl rfl rfl rfl rfl (Ab fun _ z=>Aq (AT am_ze460) (Ac z (Ab fun _ z=>Aq (AT am_ze460) (Ac z (Aj (Ab fun _ z=>Y Aa (Y Be (Ac z (Az (fun c1=>?_) (fun c1=>?_))))))))))
 ·refine Ah fun _ z=>Y Aa (Y BK (Y (Bs am_el460 am_ar460 am_cl3) (Ar _ true [_] am_in3 am_cl3 (h:=Ac z ?_))));show Ev _ _ _ _;refine Ab fun _ z=>Y (A6 _ am_ag460 am_cl460) (Ar _ true [_] am_in460 am_cl460 (h:=Ac z (Ai (B1 (Bp [_,_,_] am_ag460 am_cl460 res_n) (⟨?_,rfl⟩)))));rfl
 omega
theorem unit_p2:Fun Tryz.prog 480 [iL (2)] (AI (.agg [iL (0),iL (1),iL (0)]) []):=by
 refine Fun.of (nt:=14) (rs:=[.cell 2 460]) Tryz.func480 rfl rfl rfl rfl rfl (Ab fun _ z=>Aq (AT am_ze460) (Ac z (Ab fun _ z=>Aq (AT am_ze460) (Ac z (Aj (Ab fun _ z=>Y Aa (Y Be (Ac z (Az (fun c1=>?_) (fun c1=>?_))))))))))
 ·refine Ah fun _ z=>Y Aa (Y BK (Y (Bs am_el460 am_ar460 am_cl3) (Ar _ true [_] am_in3 am_cl3 (h:=Ac z ?_))));show Ev _ _ _ _;refine Ab fun _ z=>Y (A6 _ am_ag460 am_cl460) (Ar _ true [_] am_in460 am_cl460 (h:=Ac z (Ai (B1 (Bp [_,_,_] am_ag460 am_cl460 res_n) (⟨?_,rfl⟩)))));rfl
 omega
theorem unit_p3:Fun Tryz.prog 480 [iL (3)] (AI (.agg [iL (0),iL (0),iL (1)]) []):=by
 refine Fun.of (nt:=14) (rs:=[.cell 2 460]) Tryz.func480 rfl rfl rfl rfl rfl (Ab fun _ z=>Aq (AT am_ze460) (Ac z (Ab fun _ z=>Aq (AT am_ze460) (Ac z (Aj (Ab fun _ z=>Y Aa (Y Be (Ac z (Az (fun c1=>?_) (fun c1=>?_))))))))))
 ·refine Ah fun _ z=>Y Aa (Y BK (Y (Bs am_el460 am_ar460 am_cl3) (Ar _ true [_] am_in3 am_cl3 (h:=Ac z ?_))));show Ev _ _ _ _;refine Ab fun _ z=>Y (A6 _ am_ag460 am_cl460) (Ar _ true [_] am_in460 am_cl460 (h:=Ac z (Ai (B1 (Bp [_,_,_] am_ag460 am_cl460 res_n) (⟨?_,rfl⟩)))));rfl
 omega
theorem unit_n1:Fun Tryz.prog 480 [iL (-1)] (AI (.agg [iL (-1),iL (0),iL (0)]) []):=by
 refine Fun.of (nt:=14) (rs:=[.cell 2 460]) Tryz.func480 rfl rfl rfl rfl rfl (Ab fun _ z=>Aq (AT am_ze460) (Ac z (Ab fun _ z=>Aq (AT am_ze460) (Ac z (Aj (Ab fun _ z=>Y Aa (Y Be (Ac z (Az (fun c1=>?_) (fun c1=>?_))))))))))
 ·omega
 refine Ah fun _ z=>Y Aa (Y F5 (Y BK (Y (Bs am_el460 am_ar460 am_cl3) (Ar _ true [_] am_in3 am_cl3 (h:=Ac z ?_)))));show Ev _ _ _ _;refine Ab fun _ z=>Y (A6 _ am_ag460 am_cl460) (Ar _ true [_] am_in460 am_cl460 (h:=Ac z (Ai (B1 (Bp [_,_,_] am_ag460 am_cl460 res_n) (⟨?_,rfl⟩)))));rfl
theorem unit_n2:Fun Tryz.prog 480 [iL (-2)] (AI (.agg [iL (0),iL (-1),iL (0)]) []):=by
 refine Fun.of (nt:=14) (rs:=[.cell 2 460]) Tryz.func480 rfl rfl rfl rfl rfl (Ab fun _ z=>Aq (AT am_ze460) (Ac z (Ab fun _ z=>Aq (AT am_ze460) (Ac z (Aj (Ab fun _ z=>Y Aa (Y Be (Ac z (Az (fun c1=>?_) (fun c1=>?_))))))))))
 ·omega
 refine Ah fun _ z=>Y Aa (Y F5 (Y BK (Y (Bs am_el460 am_ar460 am_cl3) (Ar _ true [_] am_in3 am_cl3 (h:=Ac z ?_)))));show Ev _ _ _ _;refine Ab fun _ z=>Y (A6 _ am_ag460 am_cl460) (Ar _ true [_] am_in460 am_cl460 (h:=Ac z (Ai (B1 (Bp [_,_,_] am_ag460 am_cl460 res_n) (⟨?_,rfl⟩)))));rfl
theorem unit_n3:Fun Tryz.prog 480 [iL (-3)] (AI (.agg [iL (0),iL (0),iL (-1)]) []):=by
 refine Fun.of (nt:=14) (rs:=[.cell 2 460]) Tryz.func480 rfl rfl rfl rfl rfl (Ab fun _ z=>Aq (AT am_ze460) (Ac z (Ab fun _ z=>Aq (AT am_ze460) (Ac z (Aj (Ab fun _ z=>Y Aa (Y Be (Ac z (Az (fun c1=>?_) (fun c1=>?_))))))))))
 ·omega
 refine Ah fun _ z=>Y Aa (Y F5 (Y BK (Y (Bs am_el460 am_ar460 am_cl3) (Ar _ true [_] am_in3 am_cl3 (h:=Ac z ?_)))));show Ev _ _ _ _;refine Ab fun _ z=>Y (A6 _ am_ag460 am_cl460) (Ar _ true [_] am_in460 am_cl460 (h:=Ac z (Ai (B1 (Bp [_,_,_] am_ag460 am_cl460 res_n) (⟨?_,rfl⟩)))));rfl
theorem CK (n:Int) (h:Fc n):Fun Tryz.prog 480 [iL n] (AI (.agg [iL (uV n 1),iL (uV n 2),iL (uV n 3)]) []):=by
 have hn:n=1∨n=2∨n=3∨n= -1∨n= -2∨n= -3:=by unfold Fc at h;omega
 rcases hn with rfl | rfl | rfl | rfl | rfl | rfl
 ·exact unit_p1
 ·exact unit_p2
 ·exact unit_p3
 ·exact unit_n1
 ·exact unit_n2
 exact unit_n3
theorem Dn (x y:Int):Fun Tryz.prog 481 [.agg [iL (uV x 1),iL (uV x 2),iL (uV x 3)], .agg [iL (uV y 1),iL (uV y 2),iL (uV y 3)]] (AI (.agg [iL (Hk x y),iL (Hl x y),iL (Hm x y)]) []):=by
 have hb:∀ i j:Int, -1≤uV x i * uV y j∧uV x i * uV y j≤1:=fun i j=>by
  have:=CR (D0 x i) (D0 y j);omega
 have b1:=hb 2 3;have b2:=hb 3 2;have b3:=hb 3 1;have b4:=hb 1 3;have b5:=hb 1 2;have b6:=hb 2 1;refine Fun.of (nt:=39) (rs:=[.cell 4 460]) Tryz.func481 rfl rfl rfl rfl rfl (Ab fun _ z=>Aq (Bo _ true) (Aq (Bo _ true) (Aq (AT am_ze460) (Ac z (Ab fun _ z=>Y (Bs am_el460 am_ar460 am_cl3) (Y (Ao am_ag3) (Y (Bs am_el460 am_ar460 am_cl3) (Y (Ao am_ag3) (Y BC (Y (Bs am_el460 am_ar460 am_cl3) (Y (Ao am_ag3) (Y (Bs am_el460 am_ar460 am_cl3) (Y (Ao am_ag3) (Y BC (Y BK (Y (Bs am_el460 am_ar460 am_cl3) (Y (Ao am_ag3) (Y (Bs am_el460 am_ar460 am_cl3) (Y (Ao am_ag3) (Y BC (Y (Bs am_el460 am_ar460 am_cl3) (Y (Ao am_ag3) (Y (Bs am_el460 am_ar460 am_cl3) (Y (Ao am_ag3) (Y BC (Y BK (Y (Bs am_el460 am_ar460 am_cl3) (Y (Ao am_ag3) (Y (Bs am_el460 am_ar460 am_cl3) (Y (Ao am_ag3) (Y BC (Y (Bs am_el460 am_ar460 am_cl3) (Y (Ao am_ag3) (Y (Bs am_el460 am_ar460 am_cl3) (Y (Ao am_ag3) (Y BC (Y BK (Y (DW [_,_,_] am_ze460 am_pn460 am_ar460 am_cl3) (Ar _ true [_,_] am_in460 am_cl460 (h:=Ac z (Ai (B1 (Bp [_,_,_] am_ag460 am_cl460 res_n) (⟨?_,rfl⟩)))))))))))))))))))))))))))))))))))))))))));rfl
theorem PH (x y:Int) (h:Ch x y):Fun Tryz.prog 477 [.agg [iL x,iL y]] (AI (.agg [iL (uV x 1),iL (uV x 2),iL (uV x 3),iL (uV y 1),iL (uV y 2),iL (uV y 3),iL (Hk x y),iL (Hl x y),iL (Hm x y)]) []):=by
 refine Fun.of (nt:=17) (rs:=[.cell 2 537]) Tryz.func477 rfl rfl rfl rfl rfl (Ab fun _ z=>Aq (Bo _ true) (Aq (AT am_ze537) (Ac z (Av (Wk.frzv 1 [_]) (J8 (m:=10) (L0:= #[false,false,false,false,false,false,false,false,false,false]) rfl (by kernel_rfl) (by exact rfl) fun _ z=>(Ig (i:=0) am_fi192_0 (by rw [am_cl3];decide) rfl (h:=(EZ (i:=1) am_ag3 rfl (h:=(Ig (i:=3) am_fi192_1 (by rw [am_cl3];decide) rfl (h:=(EZ (i:=4) am_ag3 rfl (h:=(.done (E6 (i:=2) (j:=6) (k:=7) trivial rfl rfl rfl (Ay (hF:=CK x h.1) (h:=Af ?_)) (Aq (AT am_ze460) (Af ?_)) (Aq (AT am_ze460) (Af ?_)))))))))))))))))
 ·skip;refine E6 (i:=5) (j:=6) (k:=7) trivial rfl rfl rfl (Ay (hF:=CK y h.2.1) (h:=Af ?_)) (Aq (AT am_ze460) (Af ?_)) (Aq (AT am_ze460) (Af ?_))
  ·skip;refine By (i:=6) (j:=7) trivial rfl rfl (Aq (AT am_ze460) (Af ?_)) (Aq (AT am_ze460) (Af ?_))
   ·skip;refine HT.one (i:=7) trivial rfl (Aq (AT am_ze460) (Af (HT.one (i:=8) trivial rfl (Ar _ true [_,_] am_in460 am_cl460 (h:=Af (HT.one (i:=9) trivial rfl (Ar _ true [_,_] am_in460 am_cl460 (h:=Af (Bc trivial (by kernel_rfl) (z _ (BW (tbs [(0,0),(0,0),(0,0),(0,0),(4,12),(5,31),(6,63)]) 6 fun _ z=>Ak (A6 _ am_ag460 am_cl460) (Ak (A6 _ am_ag460 am_cl460) (Ak (A6 _ am_ag460 am_cl460) (Ak (A6 _ am_ag460 am_cl460) (Cc (hF:=Dn x y) (h:=Ak (DW [_,_,_,_,_,_,_,_,_] am_ze537 am_pn537 am_ar537 am_cl460) (B3 [_,_,_] (h:=Ar _ true [_,_] am_in537 am_cl537 (h:=Ac z (Ai (B1 (Bp [_,_,_,_,_,_,_,_,_] am_ag537 am_cl537 res_n) (⟨?_,rfl⟩))))))))))))))))))))));rfl
   skip;refine HT.one (i:=6) trivial rfl (Aq (AT am_ze460) (Af (HT.one (i:=8) trivial rfl (Ar _ true [_,_] am_in460 am_cl460 (h:=Af (HT.one (i:=9) trivial rfl (Ar _ true [_,_] am_in460 am_cl460 (h:=Af (Bc trivial (by kernel_rfl) (z _ (BW (tbs [(0,0),(0,0),(0,0),(0,0),(4,12),(5,31),(6,63)]) 6 fun _ z=>Ak (A6 _ am_ag460 am_cl460) (Ak (A6 _ am_ag460 am_cl460) (Ak (A6 _ am_ag460 am_cl460) (Ak (A6 _ am_ag460 am_cl460) (Cc (hF:=Dn x y) (h:=Ak (DW [_,_,_,_,_,_,_,_,_] am_ze537 am_pn537 am_ar537 am_cl460) (B3 [_,_,_] (h:=Ar _ true [_,_] am_in537 am_cl537 (h:=Ac z (Ai (B1 (Bp [_,_,_,_,_,_,_,_,_] am_ag537 am_cl537 res_n) (⟨?_,rfl⟩))))))))))))))))))))));rfl
  ·skip;refine By (i:=5) (j:=7) trivial rfl rfl (Ay (hF:=CK y h.2.1) (h:=Af ?_)) (Aq (AT am_ze460) (Af ?_))
   ·skip;refine HT.one (i:=7) trivial rfl (Aq (AT am_ze460) (Af (HT.one (i:=8) trivial rfl (Ar _ true [_,_] am_in460 am_cl460 (h:=Af (HT.one (i:=9) trivial rfl (Ar _ true [_,_] am_in460 am_cl460 (h:=Af (Bc trivial (by kernel_rfl) (z _ (BW (tbs [(0,0),(0,0),(0,0),(0,0),(4,12),(5,31),(6,63)]) 6 fun _ z=>Ak (A6 _ am_ag460 am_cl460) (Ak (A6 _ am_ag460 am_cl460) (Ak (A6 _ am_ag460 am_cl460) (Ak (A6 _ am_ag460 am_cl460) (Cc (hF:=Dn x y) (h:=Ak (DW [_,_,_,_,_,_,_,_,_] am_ze537 am_pn537 am_ar537 am_cl460) (B3 [_,_,_] (h:=Ar _ true [_,_] am_in537 am_cl537 (h:=Ac z (Ai (B1 (Bp [_,_,_,_,_,_,_,_,_] am_ag537 am_cl537 res_n) (⟨?_,rfl⟩))))))))))))))))))))));rfl
   skip;refine HT.one (i:=5) trivial rfl (Ay (hF:=CK y h.2.1) (h:=Af (HT.one (i:=8) trivial rfl (Ar _ true [_,_] am_in460 am_cl460 (h:=Af (HT.one (i:=9) trivial rfl (Ar _ true [_,_] am_in460 am_cl460 (h:=Af (Bc trivial (by kernel_rfl) (z _ (BW (tbs [(0,0),(0,0),(0,0),(0,0),(4,12),(5,31),(6,63)]) 6 fun _ z=>Ak (A6 _ am_ag460 am_cl460) (Ak (A6 _ am_ag460 am_cl460) (Ak (A6 _ am_ag460 am_cl460) (Ak (A6 _ am_ag460 am_cl460) (Cc (hF:=Dn x y) (h:=Ak (DW [_,_,_,_,_,_,_,_,_] am_ze537 am_pn537 am_ar537 am_cl460) (B3 [_,_,_] (h:=Ar _ true [_,_] am_in537 am_cl537 (h:=Ac z (Ai (B1 (Bp [_,_,_,_,_,_,_,_,_] am_ag537 am_cl537 res_n) (⟨?_,rfl⟩))))))))))))))))))))));rfl
  skip;refine By (i:=5) (j:=6) trivial rfl rfl (Ay (hF:=CK y h.2.1) (h:=Af ?_)) (Aq (AT am_ze460) (Af ?_))
  ·skip;refine HT.one (i:=6) trivial rfl (Aq (AT am_ze460) (Af (HT.one (i:=8) trivial rfl (Ar _ true [_,_] am_in460 am_cl460 (h:=Af (HT.one (i:=9) trivial rfl (Ar _ true [_,_] am_in460 am_cl460 (h:=Af (Bc trivial (by kernel_rfl) (z _ (BW (tbs [(0,0),(0,0),(0,0),(0,0),(4,12),(5,31),(6,63)]) 6 fun _ z=>Ak (A6 _ am_ag460 am_cl460) (Ak (A6 _ am_ag460 am_cl460) (Ak (A6 _ am_ag460 am_cl460) (Ak (A6 _ am_ag460 am_cl460) (Cc (hF:=Dn x y) (h:=Ak (DW [_,_,_,_,_,_,_,_,_] am_ze537 am_pn537 am_ar537 am_cl460) (B3 [_,_,_] (h:=Ar _ true [_,_] am_in537 am_cl537 (h:=Ac z (Ai (B1 (Bp [_,_,_,_,_,_,_,_,_] am_ag537 am_cl537 res_n) (⟨?_,rfl⟩))))))))))))))))))))));rfl
  skip;refine HT.one (i:=5) trivial rfl (Ay (hF:=CK y h.2.1) (h:=Af (HT.one (i:=8) trivial rfl (Ar _ true [_,_] am_in460 am_cl460 (h:=Af (HT.one (i:=9) trivial rfl (Ar _ true [_,_] am_in460 am_cl460 (h:=Af (Bc trivial (by kernel_rfl) (z _ (BW (tbs [(0,0),(0,0),(0,0),(0,0),(4,12),(5,31),(6,63)]) 6 fun _ z=>Ak (A6 _ am_ag460 am_cl460) (Ak (A6 _ am_ag460 am_cl460) (Ak (A6 _ am_ag460 am_cl460) (Ak (A6 _ am_ag460 am_cl460) (Cc (hF:=Dn x y) (h:=Ak (DW [_,_,_,_,_,_,_,_,_] am_ze537 am_pn537 am_ar537 am_cl460) (B3 [_,_,_] (h:=Ar _ true [_,_] am_in537 am_cl537 (h:=Ac z (Ai (B1 (Bp [_,_,_,_,_,_,_,_,_] am_ag537 am_cl537 res_n) (⟨?_,rfl⟩))))))))))))))))))))));rfl
 ·skip;refine By (i:=2) (j:=7) trivial rfl rfl (Ay (hF:=CK x h.1) (h:=Af ?_)) (Aq (AT am_ze460) (Af ?_))
  ·skip;refine By (i:=5) (j:=7) trivial rfl rfl (Ay (hF:=CK y h.2.1) (h:=Af ?_)) (Aq (AT am_ze460) (Af ?_))
   ·skip;refine HT.one (i:=7) trivial rfl (Aq (AT am_ze460) (Af (HT.one (i:=8) trivial rfl (Ar _ true [_,_] am_in460 am_cl460 (h:=Af (HT.one (i:=9) trivial rfl (Ar _ true [_,_] am_in460 am_cl460 (h:=Af (Bc trivial (by kernel_rfl) (z _ (BW (tbs [(0,0),(0,0),(0,0),(0,0),(4,12),(5,31),(6,63)]) 6 fun _ z=>Ak (A6 _ am_ag460 am_cl460) (Ak (A6 _ am_ag460 am_cl460) (Ak (A6 _ am_ag460 am_cl460) (Ak (A6 _ am_ag460 am_cl460) (Cc (hF:=Dn x y) (h:=Ak (DW [_,_,_,_,_,_,_,_,_] am_ze537 am_pn537 am_ar537 am_cl460) (B3 [_,_,_] (h:=Ar _ true [_,_] am_in537 am_cl537 (h:=Ac z (Ai (B1 (Bp [_,_,_,_,_,_,_,_,_] am_ag537 am_cl537 res_n) (⟨?_,rfl⟩))))))))))))))))))))));rfl
   skip;refine HT.one (i:=5) trivial rfl (Ay (hF:=CK y h.2.1) (h:=Af (HT.one (i:=8) trivial rfl (Ar _ true [_,_] am_in460 am_cl460 (h:=Af (HT.one (i:=9) trivial rfl (Ar _ true [_,_] am_in460 am_cl460 (h:=Af (Bc trivial (by kernel_rfl) (z _ (BW (tbs [(0,0),(0,0),(0,0),(0,0),(4,12),(5,31),(6,63)]) 6 fun _ z=>Ak (A6 _ am_ag460 am_cl460) (Ak (A6 _ am_ag460 am_cl460) (Ak (A6 _ am_ag460 am_cl460) (Ak (A6 _ am_ag460 am_cl460) (Cc (hF:=Dn x y) (h:=Ak (DW [_,_,_,_,_,_,_,_,_] am_ze537 am_pn537 am_ar537 am_cl460) (B3 [_,_,_] (h:=Ar _ true [_,_] am_in537 am_cl537 (h:=Ac z (Ai (B1 (Bp [_,_,_,_,_,_,_,_,_] am_ag537 am_cl537 res_n) (⟨?_,rfl⟩))))))))))))))))))))));rfl
  skip;refine HT.one (i:=2) trivial rfl (Ay (hF:=CK x h.1) (h:=Af (HT.one (i:=5) trivial rfl (Ay (hF:=CK y h.2.1) (h:=Af (HT.one (i:=8) trivial rfl (Ar _ true [_,_] am_in460 am_cl460 (h:=Af (HT.one (i:=9) trivial rfl (Ar _ true [_,_] am_in460 am_cl460 (h:=Af (Bc trivial (by kernel_rfl) (z _ (BW (tbs [(0,0),(0,0),(0,0),(0,0),(4,12),(5,31),(6,63)]) 6 fun _ z=>Ak (A6 _ am_ag460 am_cl460) (Ak (A6 _ am_ag460 am_cl460) (Ak (A6 _ am_ag460 am_cl460) (Ak (A6 _ am_ag460 am_cl460) (Cc (hF:=Dn x y) (h:=Ak (DW [_,_,_,_,_,_,_,_,_] am_ze537 am_pn537 am_ar537 am_cl460) (B3 [_,_,_] (h:=Ar _ true [_,_] am_in537 am_cl537 (h:=Ac z (Ai (B1 (Bp [_,_,_,_,_,_,_,_,_] am_ag537 am_cl537 res_n) (⟨?_,rfl⟩)))))))))))))))))))))))));rfl
 skip;refine By (i:=2) (j:=6) trivial rfl rfl (Ay (hF:=CK x h.1) (h:=Af ?_)) (Aq (AT am_ze460) (Af ?_))
 ·skip;refine By (i:=5) (j:=6) trivial rfl rfl (Ay (hF:=CK y h.2.1) (h:=Af ?_)) (Aq (AT am_ze460) (Af ?_))
  ·skip;refine HT.one (i:=6) trivial rfl (Aq (AT am_ze460) (Af (HT.one (i:=8) trivial rfl (Ar _ true [_,_] am_in460 am_cl460 (h:=Af (HT.one (i:=9) trivial rfl (Ar _ true [_,_] am_in460 am_cl460 (h:=Af (Bc trivial (by kernel_rfl) (z _ (BW (tbs [(0,0),(0,0),(0,0),(0,0),(4,12),(5,31),(6,63)]) 6 fun _ z=>Ak (A6 _ am_ag460 am_cl460) (Ak (A6 _ am_ag460 am_cl460) (Ak (A6 _ am_ag460 am_cl460) (Ak (A6 _ am_ag460 am_cl460) (Cc (hF:=Dn x y) (h:=Ak (DW [_,_,_,_,_,_,_,_,_] am_ze537 am_pn537 am_ar537 am_cl460) (B3 [_,_,_] (h:=Ar _ true [_,_] am_in537 am_cl537 (h:=Ac z (Ai (B1 (Bp [_,_,_,_,_,_,_,_,_] am_ag537 am_cl537 res_n) (⟨?_,rfl⟩))))))))))))))))))))));rfl
  skip;refine HT.one (i:=5) trivial rfl (Ay (hF:=CK y h.2.1) (h:=Af (HT.one (i:=8) trivial rfl (Ar _ true [_,_] am_in460 am_cl460 (h:=Af (HT.one (i:=9) trivial rfl (Ar _ true [_,_] am_in460 am_cl460 (h:=Af (Bc trivial (by kernel_rfl) (z _ (BW (tbs [(0,0),(0,0),(0,0),(0,0),(4,12),(5,31),(6,63)]) 6 fun _ z=>Ak (A6 _ am_ag460 am_cl460) (Ak (A6 _ am_ag460 am_cl460) (Ak (A6 _ am_ag460 am_cl460) (Ak (A6 _ am_ag460 am_cl460) (Cc (hF:=Dn x y) (h:=Ak (DW [_,_,_,_,_,_,_,_,_] am_ze537 am_pn537 am_ar537 am_cl460) (B3 [_,_,_] (h:=Ar _ true [_,_] am_in537 am_cl537 (h:=Ac z (Ai (B1 (Bp [_,_,_,_,_,_,_,_,_] am_ag537 am_cl537 res_n) (⟨?_,rfl⟩))))))))))))))))))))));rfl
 skip;refine HT.one (i:=2) trivial rfl (Ay (hF:=CK x h.1) (h:=Af (HT.one (i:=5) trivial rfl (Ay (hF:=CK y h.2.1) (h:=Af (HT.one (i:=8) trivial rfl (Ar _ true [_,_] am_in460 am_cl460 (h:=Af (HT.one (i:=9) trivial rfl (Ar _ true [_,_] am_in460 am_cl460 (h:=Af (Bc trivial (by kernel_rfl) (z _ (BW (tbs [(0,0),(0,0),(0,0),(0,0),(4,12),(5,31),(6,63)]) 6 fun _ z=>Ak (A6 _ am_ag460 am_cl460) (Ak (A6 _ am_ag460 am_cl460) (Ak (A6 _ am_ag460 am_cl460) (Ak (A6 _ am_ag460 am_cl460) (Cc (hF:=Dn x y) (h:=Ak (DW [_,_,_,_,_,_,_,_,_] am_ze537 am_pn537 am_ar537 am_cl460) (B3 [_,_,_] (h:=Ar _ true [_,_] am_in537 am_cl537 (h:=Ac z (Ai (B1 (Bp [_,_,_,_,_,_,_,_,_] am_ag537 am_cl537 res_n) (⟨?_,rfl⟩)))))))))))))))))))))))));rfl
def Xc (x y a b c:Int) (k i:Nat):Int:=if i < k then (if i=0 then (Ei x y (a,b,c)).1 else if i=1 then (Ei x y (a,b,c)).2.1 else (Ei x y (a,b,c)).2.2) else 0
theorem SC (x y a b c:Int) (h:Ch x y) (hn:Cq (a,b,c)):Fun Tryz.prog 473 [.agg [iL x,iL y], .agg [iL a,iL b,iL c]] (AI (.agg (pntC (Ei x y (a,b,c)))) []):=by
 obtain ⟨e1,e2⟩:=FM (x:=x) (y:=y) hn 1;obtain ⟨e3,e4⟩:=FM (x:=x) (y:=y) hn 2;obtain ⟨e5,e6⟩:=FM (x:=x) (y:=y) hn 3;obtain ⟨e7,e8,e9⟩:=L8 (x:=x) (y:=y) hn
 dsimp only at e1 e2 e3 e4 e5 e6 e7 e8 e9
 refine Fun.of (nt:=46) (rs:=[.cell 4 56]) Tryz.func473 rfl rfl rfl rfl rfl (Ab fun _ z=>Aq (Bo _ true) (Aq (Bo _ true) (Aq (AT am_ze56) (Ac z (Ab fun _ z=>Y (A6 _ am_ag192 am_cl192) (Ay (hF:=PH x y h) (h:=Aq (AT am_ze537) (Ar _ true [_,_,_] am_in537 am_cl537 (h:=Ac z (Ab fun _ z=>Aq (AT am_ze460) (Ac z (Aj (Ab fun _ z=>Y Aa (Ac z (Ev.block (AC (ι:={k:Nat // k≤3}) [4,3,1,2] [3,4,5,6] (fun ⟨k,_⟩=>[(10,iL (k:Int))]) (fun ⟨k,_⟩=>[(0,⟨false,460,3,[[iL (Xc x y a b c k 0),iL (Xc x y a b c k 1),iL (Xc x y a b c k 2)]],true⟩),(1,⟨false,537,9,[[iL (uV x 1),iL (uV x 2),iL (uV x 3),iL (uV y 1),iL (uV y 2),iL (uV y 3),iL (Hk x y),iL (Hl x y),iL (Hm x y)]],true⟩),(2,⟨false,56,3,[[iL (a),iL (b),iL (c)]],true⟩),(3,⟨false,56,3,[[iL (0),iL (0),iL (0)]],true⟩)]) (fun ⟨k,_⟩=>3 - k) ⟨0,by decide⟩ (.c (.c (.c (.c .n)))) (Ag (h:=(Ag (h:=(Ag (h:=(Ag))))))) (Ae) ?_))))))))))))))));rintro ⟨k,hk⟩ R0 hR0;dsimp only [cA,nA,lC,lN]
 have hk4:k=3∨k=0∨k=1∨k=2:=by omega
 rcases hk4 with hk4 | hk4 | hk4 | hk4
 ·subst hk4;refine Ab fun _ z=>Y As (Ac z (AG (fun c1=>?_) (fun c1=>?_)))
  ·omega
  refine AA (hR0 _ _ (Ab fun _ z=>Y (Bs am_el460 am_ar460 am_cl3) (Y (Ao am_ag3) (Y (Bs am_el460 am_ar460 am_cl3) (Y (Ao am_ag3) (Y (Bs am_el460 am_ar460 am_cl3) (Y (Ao am_ag3) (Y (Bg _ am_ze56 am_pl56) (Ar _ true [_,_,_] am_in56 am_cl56 (h:=Ac z (Ai (B1 (Bp [_,_,_] am_ag56 am_cl56 res_n) (⟨?_,rfl⟩)))))))))))));rfl
 ·subst hk4;refine Ab fun _ z=>Y As (Ac z (AG (fun c2=>?_) (fun c2=>?_)))
  ·refine Aj (Ev.block (Ab fun _ z=>Y Aa (Y Ad (Ac z (CP (tbs [(0,0),(0,0),(0,0),(3,6),(4,14),(0,0),(6,32),(7,126),(0,0),(0,0),(10,768),(11,1792),(0,0),(13,4096),(14,16128),(15,32766),(0,0),(0,0),(18,196608),(19,458752),(0,0),(21,1048576),(22,4128768),(23,8388606),(24,16777215),(25,33554431)]) 25 fun _ z=>Ak Aa (Ak Aa (Ak (Bs am_el537 am_ar537 am_cl460) (Ak (Bs am_el460 am_ar460 am_cl3) (Ak (Ao am_ag3) (Ak (An 0 am_fi56_0 am_cl3) (Ak (Ao am_ag3) (Ak BC (Ak Aa (Ak (Bs am_el537 am_ar537 am_cl460) (Ak (Bs am_el460 am_ar460 am_cl3) (Ak (Ao am_ag3) (Ak (An 1 am_fi56_1 am_cl3) (Ak (Ao am_ag3) (Ak BC (Ak Ax (Ak Aa (Ak (Bs am_el537 am_ar537 am_cl460) (Ak (Bs am_el460 am_ar460 am_cl3) (Ak (Ao am_ag3) (Ak (An 2 am_fi56_2 am_cl3) (Ak (Ao am_ag3) (Ak BC (Ak Ax (Ak (Bs am_el460 am_ar460 am_cl3) (B3 [_,_,_,_] (h:=Ar _ true [_,_,_] am_in3 am_cl3 (h:=Ac z ?_))))))))))))))))))))))))))))))));show Ev _ _ _ _;refine Ah fun _ z=>Y Ax (Y Aa (Ac z (hR0 _ _ (A4 [0,1,2,3] [3,4,5,6] ⟨1,by decide⟩ ?_ (Ag (h:=(Ag (h:=(Ag (h:=(Ag))))))) (Ae) (.c (.c (.c (.c .n))))))));skip;all_goals (dsimp only;omega)
  omega
 ·subst hk4;refine Ab fun _ z=>Y As (Ac z (AG (fun c3=>?_) (fun c3=>?_)))
  ·refine Aj (Ev.block (Ab fun _ z=>Y Aa (Y Ad (Ac z (CP (tbs [(0,0),(0,0),(0,0),(3,6),(4,14),(0,0),(6,32),(7,126),(0,0),(0,0),(10,768),(11,1792),(0,0),(13,4096),(14,16128),(15,32766),(0,0),(0,0),(18,196608),(19,458752),(0,0),(21,1048576),(22,4128768),(23,8388606),(24,16777215),(25,33554431)]) 25 fun _ z=>Ak Aa (Ak Aa (Ak (Bs am_el537 am_ar537 am_cl460) (Ak (Bs am_el460 am_ar460 am_cl3) (Ak (Ao am_ag3) (Ak (An 0 am_fi56_0 am_cl3) (Ak (Ao am_ag3) (Ak BC (Ak Aa (Ak (Bs am_el537 am_ar537 am_cl460) (Ak (Bs am_el460 am_ar460 am_cl3) (Ak (Ao am_ag3) (Ak (An 1 am_fi56_1 am_cl3) (Ak (Ao am_ag3) (Ak BC (Ak Ax (Ak Aa (Ak (Bs am_el537 am_ar537 am_cl460) (Ak (Bs am_el460 am_ar460 am_cl3) (Ak (Ao am_ag3) (Ak (An 2 am_fi56_2 am_cl3) (Ak (Ao am_ag3) (Ak BC (Ak Ax (Ak (Bs am_el460 am_ar460 am_cl3) (B3 [_,_,_,_] (h:=Ar _ true [_,_,_] am_in3 am_cl3 (h:=Ac z ?_))))))))))))))))))))))))))))))));show Ev _ _ _ _;refine Ah fun _ z=>Y Ax (Y Aa (Ac z (hR0 _ _ (A4 [0,1,2,3] [3,4,5,6] ⟨2,by decide⟩ ?_ (Ag (h:=(Ag (h:=(Ag (h:=(Ag))))))) (Ae) (.c (.c (.c (.c .n))))))));skip;all_goals (dsimp only;omega)
  omega
 subst hk4;refine Ab fun _ z=>Y As (Ac z (AG (fun c4=>?_) (fun c4=>?_)))
 ·refine Aj (Ev.block (Ab fun _ z=>Y Aa (Y Ad (Ac z (CP (tbs [(0,0),(0,0),(0,0),(3,6),(4,14),(0,0),(6,32),(7,126),(0,0),(0,0),(10,768),(11,1792),(0,0),(13,4096),(14,16128),(15,32766),(0,0),(0,0),(18,196608),(19,458752),(0,0),(21,1048576),(22,4128768),(23,8388606),(24,16777215),(25,33554431)]) 25 fun _ z=>Ak Aa (Ak Aa (Ak (Bs am_el537 am_ar537 am_cl460) (Ak (Bs am_el460 am_ar460 am_cl3) (Ak (Ao am_ag3) (Ak (An 0 am_fi56_0 am_cl3) (Ak (Ao am_ag3) (Ak BC (Ak Aa (Ak (Bs am_el537 am_ar537 am_cl460) (Ak (Bs am_el460 am_ar460 am_cl3) (Ak (Ao am_ag3) (Ak (An 1 am_fi56_1 am_cl3) (Ak (Ao am_ag3) (Ak BC (Ak Ax (Ak Aa (Ak (Bs am_el537 am_ar537 am_cl460) (Ak (Bs am_el460 am_ar460 am_cl3) (Ak (Ao am_ag3) (Ak (An 2 am_fi56_2 am_cl3) (Ak (Ao am_ag3) (Ak BC (Ak Ax (Ak (Bs am_el460 am_ar460 am_cl3) (B3 [_,_,_,_] (h:=Ar _ true [_,_,_] am_in3 am_cl3 (h:=Ac z ?_))))))))))))))))))))))))))))))));show Ev _ _ _ _;refine Ah fun _ z=>Y Ax (Y Aa (Ac z (hR0 _ _ (A4 [0,1,2,3] [3,4,5,6] ⟨3,by decide⟩ ?_ (Ag (h:=(Ag (h:=(Ag (h:=(Ag))))))) (Ae) (.c (.c (.c (.c .n))))))));skip;all_goals (dsimp only;omega)
 omega
theorem Rx (x y:Int) (q p:P3) (h:Ch x y) (hq:Cq q) (hn:Cq p):Fun Tryz.prog 459 [.agg [iL x,iL y], .agg (pntC q), .agg (pntC p)] (AI (.agg (pntC (C8 q (Ei x y p)))) []):=by
 obtain ⟨a,b,c⟩:=p;obtain ⟨d,e,f⟩:=q;obtain ⟨e1,e2⟩:=FM (x:=x) (y:=y) hn 1;obtain ⟨e3,e4⟩:=FM (x:=x) (y:=y) hn 2;obtain ⟨e5,e6⟩:=FM (x:=x) (y:=y) hn 3;obtain ⟨e7,e8,e9⟩:=L8 (x:=x) (y:=y) hn
 unfold Cq at hq
 dsimp only at hq
 refine Fun.of (nt:=27) (rs:=[.cell 6 56]) Tryz.func459 rfl rfl rfl rfl rfl (Ab fun _ z=>Aq (Bo _ true) (Aq (Bo _ true) (Aq (Bo _ true) (Aq (AT am_ze56) (Ac z (Ab fun _ z=>Y (A6 _ am_ag192 am_cl192) (Y (A6 _ am_ag56 am_cl56) (Ay (hF:=SC x y a b c h hn) (h:=Aq (AT am_ze56) (Ar _ true [_,_,_,_] am_in56 am_cl56 (h:=Ac z (Ab fun _ z=>Y (An 0 am_fi56_0 am_cl3) (Y (Ao am_ag3) (Y (An 0 am_fi56_0 am_cl3) (Y (Ao am_ag3) (Y Ax (Y (An 1 am_fi56_1 am_cl3) (Y (Ao am_ag3) (Y (An 1 am_fi56_1 am_cl3) (Y (Ao am_ag3) (Y Ax (Y (An 2 am_fi56_2 am_cl3) (Y (Ao am_ag3) (Y (An 2 am_fi56_2 am_cl3) (Y (Ao am_ag3) (Y Ax (Y (Bg _ am_ze56 am_pl56) (Ar _ true [_,_,_,_] am_in56 am_cl56 (h:=Ac z (Ai (B1 (Bp [_,_,_] am_ag56 am_cl56 res_n) (⟨?_,rfl⟩))))))))))))))))))))))))))))))));rfl
def Vs (a b c:Int) (k:Nat):Prop:=∀ i,i < k→ -1048576≤IK a b c i∧IK a b c i≤1048576
theorem Rs {a b c:Int} {k:Nat} (h:Vs a b c k) (h1: -1048576≤IK a b c k∧IK a b c k≤1048576):Vs a b c (k+1):=fun i hi=>by
 by_cases e:i=k
 ·subst e;exact h1
 ·exact h i (by omega)
theorem Yk {a b c:Int} (h:Vs a b c 3):Cq (a,b,c):=⟨h 0 (by decide),h 1 (by decide),h 2 (by decide)⟩
theorem OM (l:List P3) (hlen:l.length≤140737488355328):Fun Tryz.prog 458 [.sh 3 (l.map pntC)] (AI (bL (decide (DV l))) []):=by
 refine Fun.of (nt:=31) (rs:=[.tmp 2]) Tryz.func458 rfl rfl rfl rfl rfl (Ab fun _ z=>Y Ad (Ac z (Aj (Ab fun _ z=>Y Aa (Y (A5 am_el380) (Y Aa (Ac z (Ev.block (AC (ι:={q:List (Int × Int × Int) × List (Int × Int × Int) // q.1 ++ q.2=l∧DV q.1}) [] [7,8] (fun ⟨(pre,suf),_⟩=>[(9,iL (pre.length:Int))]) (fun ⟨(pre,suf),_⟩=>[]) (fun ⟨(pre,suf),_⟩=>suf.length) ⟨([],l),rfl,fun x hx=>by simp at hx⟩ (.c (.c .n)) AN (Ae) ?_)))))))));rintro ⟨⟨pre,suf⟩,hp,hinv⟩ R0 hR0;dsimp only [cA,nA,lC,lN]
 simp only at hp hinv
 have hpl:=BO hp
 rcases suf with _ | ⟨s,suf⟩
 ·rw [List.append_nil] at hp;simp only [lN] at hpl;refine Ab fun _ z=>Y As (Ac z (AG (fun c1=>?_) (fun c1=>?_)))
  ·omega
  refine AA (hR0 _ _ (Ab fun _ z=>Y Ad (Ac z (Ai (Ap ?_)))));exact bT (by rw [← hp];exact hinv)
 simp only [lC] at hpl;have hidx:=BM hp;obtain ⟨a,b,c⟩:=s;refine Ab fun _ z=>Y As (Ac z (AG (fun c2=>?_) (fun c2=>?_)))
 ·refine Aj (Ev.block (Ab fun _ z=>Y (AQ am_el380 am_cl56 (hl:=(by exact Ba hidx (by omega)))) (Y (Bv _ am_ag56 am_cl56) (Aq (AT am_ze56) (Ar _ true [] am_in56 am_cl56 (h:=Ac z (Ab fun _ z=>Y (An 0 am_fi56_0 am_cl3) (Y (Ao am_ag3) (Y (An 1 am_fi56_1 am_cl3) (Y (Ao am_ag3) (Y (An 2 am_fi56_2 am_cl3) (Y (Ao am_ag3) (Y (DW [_,_,_] am_ze460 am_pn460 am_ar460 am_cl3) (Y Aa (Ac z (Ev.block (AC (ι:={k:Nat // k≤3∧Vs a b c k}) [] [7,8,9,19] (fun ⟨k,_⟩=>[(20,iL (k:Int))]) (fun ⟨k,_⟩=>[]) (fun ⟨k,_⟩=>3 - k) ⟨0,by decide,fun i hi=>absurd hi (by omega)⟩ (.c (.c (.c (.c .n)))) AN (Ae) ?_)))))))))))))))));rintro ⟨k,hk,hik⟩ R2 hR2;dsimp only [cA,nA,lC,lN]
  have hk4:k=3∨k=0∨k=1∨k=2:=by omega
  rcases hk4 with hk4 | hk4 | hk4 | hk4
  ·subst hk4;refine Ab fun _ z=>Y As (Ac z (AG (fun c3=>?_) (fun c3=>?_)))
   ·omega
   refine AA (hR2 _ _ (Ah fun _ z=>Y Ax (Y Aa (Ac z (hR0 _ _ (A4 [] [7,8] ⟨(pre ++ [(a,b,c)],suf),Bu hp,?_⟩ B9 AN (Ae (he:=(by congr 2;simp))) (.c (.c .n))))))));intro x hx
   rcases List.mem_append.1 hx with hx | hx
   ·exact hinv x hx
   ·rw [List.mem_singleton] at hx;subst hx;exact Yk hik
  ·subst hk4;refine Ab fun _ z=>Y As (Ac z (AG (fun c4=>?_) (fun c4=>?_)))
   ·refine Aj (Ev.block (Ab fun _ z=>Y (Hx am_ar460 am_ag3 am_cl3) (Y Ad (Ac z (Ab fun _ z=>Y Aa (Y As (AS Aa (fun c5=>?_) (fun c5=>?_))))))))
    ·refine Au (Y AF (Ac z (BI (Ab fun _ z=>Y Ad (Ac z (Ai (hR2 _ _ (hR0 _ _ (Ap ?_)))))))));exact bF (fun h=>by have h1:=h (a,b,c) (by rw [← hp];simp);unfold Cq at h1;dsimp only at h1;omega)
    refine Y Aa (Y Be (Y AE (Ac z (Az (fun c6=>?_) (fun c6=>?_)))))
    ·refine Ab fun _ z=>Y Ad (Ac z (Ai (hR2 _ _ (hR0 _ _ (Ap ?_)))));exact bF (fun h=>by have h1:=h (a,b,c) (by rw [← hp];simp);unfold Cq at h1;dsimp only at h1;omega)
    refine Am (Ah fun _ z=>Y Ax (Y Aa (Ac z (hR2 _ _ (A4 [] [7,8,9,19] ⟨_,by decide,Rs hik (show -1048576≤_∧_≤(1048576:Int) from ⟨by simp [IK];omega,by simp [IK];omega⟩)⟩ ?_ AN (Ae) (.c (.c (.c (.c .n)))))))));skip;all_goals (dsimp only;omega)
   omega
  ·subst hk4;refine Ab fun _ z=>Y As (Ac z (AG (fun c7=>?_) (fun c7=>?_)))
   ·refine Aj (Ev.block (Ab fun _ z=>Y (Hx am_ar460 am_ag3 am_cl3) (Y Ad (Ac z (Ab fun _ z=>Y Aa (Y As (AS Aa (fun c8=>?_) (fun c8=>?_))))))))
    ·refine Au (Y AF (Ac z (BI (Ab fun _ z=>Y Ad (Ac z (Ai (hR2 _ _ (hR0 _ _ (Ap ?_)))))))));exact bF (fun h=>by have h1:=h (a,b,c) (by rw [← hp];simp);unfold Cq at h1;dsimp only at h1;omega)
    refine Y Aa (Y Be (Y AE (Ac z (Az (fun c9=>?_) (fun c9=>?_)))))
    ·refine Ab fun _ z=>Y Ad (Ac z (Ai (hR2 _ _ (hR0 _ _ (Ap ?_)))));exact bF (fun h=>by have h1:=h (a,b,c) (by rw [← hp];simp);unfold Cq at h1;dsimp only at h1;omega)
    refine Am (Ah fun _ z=>Y Ax (Y Aa (Ac z (hR2 _ _ (A4 [] [7,8,9,19] ⟨_,by decide,Rs hik (show -1048576≤_∧_≤(1048576:Int) from ⟨by simp [IK];omega,by simp [IK];omega⟩)⟩ ?_ AN (Ae) (.c (.c (.c (.c .n)))))))));skip;all_goals (dsimp only;omega)
   omega
  subst hk4;refine Ab fun _ z=>Y As (Ac z (AG (fun c10=>?_) (fun c10=>?_)))
  ·refine Aj (Ev.block (Ab fun _ z=>Y (Hx am_ar460 am_ag3 am_cl3) (Y Ad (Ac z (Ab fun _ z=>Y Aa (Y As (AS Aa (fun c11=>?_) (fun c11=>?_))))))))
   ·refine Au (Y AF (Ac z (BI (Ab fun _ z=>Y Ad (Ac z (Ai (hR2 _ _ (hR0 _ _ (Ap ?_)))))))));exact bF (fun h=>by have h1:=h (a,b,c) (by rw [← hp];simp);unfold Cq at h1;dsimp only at h1;omega)
   refine Y Aa (Y Be (Y AE (Ac z (Az (fun c12=>?_) (fun c12=>?_)))))
   ·refine Ab fun _ z=>Y Ad (Ac z (Ai (hR2 _ _ (hR0 _ _ (Ap ?_)))));exact bF (fun h=>by have h1:=h (a,b,c) (by rw [← hp];simp);unfold Cq at h1;dsimp only at h1;omega)
   refine Am (Ah fun _ z=>Y Ax (Y Aa (Ac z (hR2 _ _ (A4 [] [7,8,9,19] ⟨_,by decide,Rs hik (show -1048576≤_∧_≤(1048576:Int) from ⟨by simp [IK];omega,by simp [IK];omega⟩)⟩ ?_ AN (Ae) (.c (.c (.c (.c .n)))))))));skip;all_goals (dsimp only;omega)
  omega
 omega
theorem LH {p:P3}:DV [p]↔Cq p:=⟨fun h=>h p (by simp),fun h q hq=>by rw [List.mem_singleton] at hq;subst hq;exact h⟩
theorem ND (x y:Int) (q:P3) (l:List P3) (hlen:l.length≤140737488355328):Fun Tryz.prog 411 [.agg [iL x,iL y], .agg (pntC q), .sh 3 (l.map pntC)] (AI (.tup [.sh 3 ((MW x y q l).map pntC),iL (JJ x y q l)]) []):=by
 obtain ⟨qa,qb,qc⟩:=q;refine Fun.of (nt:=44) (rs:=[.tmp 6, .tmp 7]) Tryz.func411 rfl rfl rfl rfl rfl (Ab fun _ z=>Aq (Bo _ true) (Aq (Bo _ true) (Y Ad (Y Ad (Ac z (Aj (Ev.block (Ab fun _ z=>Y (A6 _ am_ag192 am_cl192) (Ay (hF:=J6 x y) (h:=Y Bw (Y Ad (Ac z (Bh (fun c1=>?_) (fun c1=>?_))))))))))))))
 ·refine Ab fun _ z=>Y Ad (Y Ad (Ac z (Av (Wk.nsh pntC 6 3) (Ai (Cd ?_)))));rw [(WZ ‹_›).1,(WZ ‹_›).2]
 refine Ab fun _ z=>Y Aa (Y (A5 am_el380) (Y Be (Y Ad (Ac z (Az (fun c2=>?_) (fun c2=>?_))))))
 ·refine Ab fun _ z=>Y Ad (Y Ad (Ac z (Av (Wk.nsh pntC 6 3) (Ai (Cd ?_)))));rw [(Xa ‹Ch x y› (by omega)).1,(Xa ‹Ch x y› (by omega)).2]
 refine Ab fun _ z=>Y (A6 _ am_ag56 am_cl56) (Aq (Bf [[_,_,_]] true am_el380 am_ze56 am_cl56) (SeqL.weaken (Wk.frzl (f:=pntC) [(qa,qb,qc)] 21 [_,_]) (Ay (hF:=OM [(qa,qb,qc)] (by simp)) (h:=Y Bw (Dc Aa (fun c3=>?_) (fun c3=>?_))))))
 ·refine Au (Bq (Y AF (Y Ad (Ac z (BI (Ab fun _ z=>Y Ad (Y Ad (Ac z (Av (Wk.nsh pntC 6 3) (Ai (Cd ?_)))))))))));rw [(QZ (at_:=(qa,qb,qc)) ‹Ch x y› (by omega) (fun h=>absurd (LH.2 h.1) ‹_›)).1,(QZ (at_:=(qa,qb,qc)) ‹Ch x y› (by omega) (fun h=>absurd (LH.2 h.1) ‹_›)).2]
 refine Y Aa (Ay (hF:=OM l (by omega)) (h:=Y Bw (Y AE (Y Ad (Ac z (Bh (fun c4=>?_) (fun c4=>?_)))))))
 ·refine Ab fun _ z=>Y Ad (Y Ad (Ac z (Av (Wk.nsh pntC 6 3) (Ai (Cd ?_)))));rw [(QZ (at_:=(qa,qb,qc)) ‹Ch x y› (by omega) (fun h=>absurd h.2 ‹_›)).1,(QZ (at_:=(qa,qb,qc)) ‹Ch x y› (by omega) (fun h=>absurd h.2 ‹_›)).2]
 refine Am (Ab fun _ z=>Y Ad (Ac z (Aj (Ab fun _ z=>Y Aa (Y (A5 am_el380) (Y Aa (Ac z (Ev.block (Av (Wk.nown pntC 8 56 3) (AC (ι:={p:List ((Int × Int × Int)) × List ((Int × Int × Int)) // p.1 ++ p.2=l∧True}) [3,0,1] [3,4,29,30] (fun ⟨(pre,suf),_⟩=>[(31,iL (pre.length:Int)),(8, .als 0 0 (pre.map (fun p=>C8 (qa,qb,qc) (Ei x y p))).length)]) (fun ⟨(pre,suf),_⟩=>[(0,⟨true,56,3,(pre.map (fun p=>C8 (qa,qb,qc) (Ei x y p))).map pntC,true⟩),(1,⟨false,192,2,[[iL (x),iL (y)]],true⟩),(2,⟨false,56,3,[[iL (qa),iL (qb),iL (qc)]],true⟩)]) (fun ⟨(pre,suf),_⟩=>suf.length) ⟨([],l),rfl,trivial⟩ (.c (.c (.c (.c .n)))) (Ag (h:=(Ag (h:=(Ag))))) (Ae (h:=(Ae))) ?_))))))))));rintro ⟨⟨pre,suf⟩,hp,hinv⟩ R1 hR1;dsimp only [cA,nA,lC,lN]
 simp only at hp hinv
 have hpl:=BO hp
 rcases suf with _ | ⟨s,suf⟩
 ·rw [List.append_nil] at hp;simp only [lN] at hpl;refine Ab fun _ z=>Y As (Ac z (AG (fun c5=>?_) (fun c5=>?_)))
  ·omega
  refine AA (hR1 _ _ (Ab fun _ z=>Y Aa (Y Ad (Y Ad (Ac z (Av (Wk.frz 6 [_,_]) (Ai (Cd ?_))))))));rw [(Ue (at_:=(qa,qb,qc)) ‹Ch x y› (by omega) ⟨LH.1 ‹_›, ‹_›⟩).1,(Ue (at_:=(qa,qb,qc)) ‹Ch x y› (by omega) ⟨LH.1 ‹_›, ‹_›⟩).2, ← hp]
 simp only [lC] at hpl;have hidx:=BM hp;obtain ⟨a,b,c⟩:=s;refine Ab fun _ z=>Y As (Ac z (AG (fun c6=>?_) (fun c6=>?_)))
 ·refine Aj (Ev.block (Ab fun _ z=>Y (AQ am_el380 am_cl56 (hl:=(by exact Ba hidx (by omega)))) (Y (Bv _ am_ag56 am_cl56) (Aq (AT am_ze56) (Ar _ true [_,_,_] am_in56 am_cl56 (h:=Ac z (Ah fun _ z=>Y Aa (Y (A6 _ am_ag192 am_cl192) (Y (A6 _ am_ag56 am_cl56) (Y (A6 _ am_ag56 am_cl56) (Ay (hF:=Rx x y (qa,qb,qc) (a,b,c) ‹Ch x y› (LH.1 ‹DV [(qa,qb,qc)]›) (‹DV l› _ (by rw [← hp];simp))) (h:=Aq (Bf [[_,_,_]] true am_el380 am_ze56 am_cl56) (AW [_,_,_,_] am_el380 am_ze56 am_cl56 am_by56 (hh:=A3) (hr:=(A7 [C8 (qa,qb,qc) (Ei x y (a,b,c))])) (h:=Y Ad (Ac z ?_)))))))))))))));show Ev _ _ _ _;refine Ah fun _ z=>Y Ax (Y Aa (Ac z (hR1 _ _ (A4 [5,1,2] [3,4,29,30] ⟨(pre ++ [(a,b,c)],suf),Bu hp,trivial⟩ B9 (Ag (he:=(by simp)) (h:=(Ag (h:=(Ag))))) (Ae (he:=(by congr 2;simp)) (h:=(Ae (he:=(by congr 2;simp))))) (.c (.c (.c (.c .n))))))));skip
 omega
theorem U0 {b:Bar} {p:P3} {s:Int × Int} (h:s.2=120):DI b p s=(p.1+AY b s.1.toNat,p.2.1,p.2.2):=if_pos h
theorem Uy {b:Bar} {p:P3} {s:Int × Int} (h:s.2=88):DI b p s=(p.1 - AY b s.1.toNat,p.2.1,p.2.2):=(if_neg (by omega)).trans (if_pos h)
theorem U1 {b:Bar} {p:P3} {s:Int × Int} (h:s.2=121):DI b p s=(p.1,p.2.1+AY b s.1.toNat,p.2.2):=(if_neg (by omega)).trans ((if_neg (by omega)).trans (if_pos h))
theorem Uz {b:Bar} {p:P3} {s:Int × Int} (h:s.2=89):DI b p s=(p.1,p.2.1 - AY b s.1.toNat,p.2.2):=(if_neg (by omega)).trans ((if_neg (by omega)).trans ((if_neg (by omega)).trans (if_pos h)))
theorem U2 {b:Bar} {p:P3} {s:Int × Int} (h:s.2=122):DI b p s=(p.1,p.2.1,p.2.2+AY b s.1.toNat):=(if_neg (by omega)).trans ((if_neg (by omega)).trans ((if_neg (by omega)).trans ((if_neg (by omega)).trans (if_pos h))))
theorem TB {k:Int} {s:Int × Int} (h:s ∈ Cp k):s.2=120∨s.2=88∨s.2=121∨s.2=89∨s.2=122:=by
 rcases Hq k with e | e | e | e | e | e | e | e | e
 iterate 8
  ·rw [e] at h
   revert h s
   decide
 rw [(Dh e).1] at h;cases h
theorem HX {b:Bar} {pre:List (Int × Int)} {s:Int × Int} {x y z:Int} (e:DI b (EA b pre) s=(x,y,z)):(Dj b pre (0,0,0) ++ [(x,y,z)]).map pntC=(Dj b (pre ++ [s]) (0,0,0)).map pntC:=by
 rw [LO,show pre.foldl (DI b) (0,0,0)=EA b pre from rfl,e]
theorem GP {b:Bar} {pre:List (Int × Int)} {s:Int × Int} {q p:P3}:(Dj b pre p ++ [q]).length=(Dj b (pre ++ [s]) p).length:=by
 rw [FX,List.length_append,FX]
 simp
theorem IM {b:Bar} {pre:List (Int × Int)} {s:Int × Int} {x y z:Int} (e:DI b (EA b pre) s=(x,y,z)):[[iL x,iL y,iL z]]=[[iL (EA b (pre ++ [s])).1,iL (EA b (pre ++ [s])).2.1,iL (EA b (pre ++ [s])).2.2]]:=by
 rw [MU,e]
theorem WY {b:Bar} (h:BU b):∀ pre:List (Int × Int),(∀ s ∈ pre,s ∈ Cp b.code)→(-262144 * (pre.length:Int)≤(EA b pre).1∧(EA b pre).1≤262144 * pre.length)∧(-262144 * (pre.length:Int)≤(EA b pre).2.1∧(EA b pre).2.1≤262144 * pre.length)∧ -262144 * (pre.length:Int)≤(EA b pre).2.2∧(EA b pre).2.2≤262144 * pre.length:=by
 refine Ft (fun _=>by simp [EA]) ?_;intro pre s ih hs;have h1:=ih fun t ht=>hs t (by simp [ht]);have h2:=hs s (by simp);have hlb:=LF b.code s h2;obtain ⟨_,d1,d2⟩:=B2 h (i:=s.1.toNat) (by omega);rw [MU,List.length_append,List.length_singleton]
 rcases TB h2 with e | e | e | e | e
 ·rw [U0 e];dsimp only;omega
 ·rw [Uy e];dsimp only;omega
 ·rw [U1 e];dsimp only;omega
 ·rw [Uz e];dsimp only;omega
 rw [U2 e];dsimp only;omega
theorem NN (b:Bar) (hw:b.w):Fun Tryz.prog 410 [.agg b.c] (AI (.tup [.sh 3 ((Ia b).map pntC),iL (Gw b)]) []):=by
 obtain ⟨hw1,hw2⟩:=id hw;obtain ⟨d1,d2,d3,d4⟩:=H5 b.code;refine Fun.of (nt:=71) (rs:=[.tmp 2, .tmp 3]) Tryz.func410 rfl rfl rfl rfl rfl (Ab fun _ w=>Aq (Bo _ true) (Y Ad (Y Ad (Ac w (Aj (Ab fun _ w=>Y (A6 _ am_ag168 am_cl168) (Ay (hF:=Kl _ (by assumption)) (h:=Y Bw (Ac w (Bh (fun c1=>?_) (fun c1=>?_)))))))))))
 ·refine Ab fun _ w=>Y Ad (Y Ad (Ac w (Av (Wk.nsh pntC 2 3) (Ai (Cd ?_)))));rw [Ia,Gw,if_neg ‹_›,if_neg ‹_›]
 refine Am (Ab fun _ w=>Aq (AT am_ze56) (Ac w (Ab fun _ w=>Y (A6 _ am_ag56 am_cl56) (Aq (Bf [[_,_,_]] true am_el380 am_ze56 am_cl56) (Y Ad (Ac w (Aj (Ab fun _ w=>Y (An 3 am_fi168_3 am_cl3) (Y (Ao am_ag3) (Ay (hF:=Lc _) (h:=Y (A5 am_el420) (Y Aa (Ac w (Ev.block (AC (ι:={p:List (Int × Int) × List (Int × Int) // p.1 ++ p.2=(Cp b.code)∧True}) [0,2,1] [1,4,16,17] (fun ⟨(pre,suf),_⟩=>[(18,iL (pre.length:Int)),(5, .als 1 0 (Dj b pre (0,0,0)).length)]) (fun ⟨(pre,suf),_⟩=>[(0,⟨false,168,5,[[sL (b.mark),iL (b.size),iL (b.count),iL (b.code), .sh 1 ((b.dims).map AD)]],true⟩),(1,⟨true,56,3,(Dj b pre (0,0,0)).map pntC,true⟩),(2,⟨false,56,3,[[iL ((EA b pre).1),iL ((EA b pre).2.1),iL ((EA b pre).2.2)]],true⟩)]) (fun ⟨(pre,suf),_⟩=>suf.length) ⟨([],(Cp b.code)),rfl,trivial⟩ (.c (.c (.c (.c .n)))) (Ag (h:=(Ag (h:=(Ag))))) (Ae (h:=(Ae))) ?_)))))))))))))));rintro ⟨⟨pre,suf⟩,hp,hinv⟩ R0 hR0;dsimp only [cA,nA,lC,lN]
 simp only at hp hinv
 have hpl:=BO hp
 rcases suf with _ | ⟨s,suf⟩
 ·rw [List.append_nil] at hp;simp only [lN] at hpl;refine Ab fun _ w=>Y As (Ac w (AG (fun c2=>?_) (fun c2=>?_)))
  ·omega
  refine AA (hR0 _ _ (Ab fun _ w=>Y Aa (Y Ad (Y Ad (Ac w (Av (Wk.frz 2 [_,_]) (Ai (Cd ?_))))))));rw [Ia,Gw,if_pos ‹_›,if_pos ‹_›,Du, ← hp]
 simp only [lC] at hpl;have hidx:=BM hp
 have hsm:s ∈ Cp b.code:=by rw [← hp];simp
 have hlb:=LF b.code s hsm;have hwy:=TB hsm;obtain ⟨hdi,hd1,hd2⟩:=B2 ‹BU b› (i:=s.1.toNat) (by omega);have heb:=WY ‹BU b› pre (fun t ht=>by rw [← hp];simp [ht]);have hpl6:=FX b pre (0,0,0);refine Ab fun _ w=>Y As (Ac w (AG (fun c3=>?_) (fun c3=>?_)))
 ·refine Aj (Ev.block (Ab fun _ w=>Y (AQ am_el420 am_cl423 (hl:=(by exact Ba hidx (by omega)))) (Y (Bv _ am_ag423 am_cl423) (Aq (AT am_ze423) (Ar _ true [_,_,_] am_in423 am_cl423 (h:=Ac w (Ab fun _ w=>Y (An 4 am_fi168_4 am_cl24) (Y (Ao am_ag24) (Y (An 0 am_fi423_0 am_cl3) (Y (Ao am_ag3) (Y (AQ am_el24 am_cl3 (hl:=(by exact Ba hdi (by omega)))) (Y (AO am_ag3) (Y Ad (Ac w (Aj (Ab fun _ w=>Y (An 1 am_fi423_1 am_cl5) (Y (Ao am_ag5) (Ac w (Ev.block (Ab fun _ w=>Y Bk (Y Ad (Ac w (Az (fun c4=>?_) (fun c4=>?_))))))))))))))))))))))))
  ·refine Ah fun _ w=>Y (An 0 am_fi56_0 am_cl3) (Y (Ao am_ag3) (Y Aa (Y Ax (Y (An 0 am_fi56_0 am_cl3) (Ar _ true [_,_,_] am_in3 am_cl3 (h:=Ac w ?_))))));show Ev _ _ _ _;refine Ah fun _ w=>Y Aa (Y (A6 _ am_ag56 am_cl56) (Aq (Bf [[_,_,_]] true am_el380 am_ze56 am_cl56) (AW [_,_,_,_] am_el380 am_ze56 am_cl56 am_by56 (hh:=A3) (hr:=(A7 [(⟨_,_,_⟩:Int × Int × Int)])) (h:=Y Ad (Ac w ?_)))));show Ev _ _ _ _;refine Ah fun _ w=>Y Ax (Y Aa (Ac w (hR0 _ _ (A4 [0,5,2] [1,4,16,17] ⟨(pre ++ [s],suf),Bu hp,trivial⟩ B9 (Ag (h:=(Ag (he:=(by exact HX (U0 ‹_›))) (h:=(Ag (he:=(by exact IM (U0 ‹_›)))))))) (Ae (he:=(by congr 2;simp)) (h:=(Ae (he:=(by exact congrArg (fun k=>AV.als 1 0 k) GP))))) (.c (.c (.c (.c .n))))))));skip
  refine Ab fun _ w=>Y Bk (Y Ad (Ac w (Az (fun c5=>?_) (fun c5=>?_))))
  ·refine Ah fun _ w=>Y (An 0 am_fi56_0 am_cl3) (Y (Ao am_ag3) (Y Aa (Y BK (Y (An 0 am_fi56_0 am_cl3) (Ar _ true [_,_,_] am_in3 am_cl3 (h:=Ac w ?_))))));show Ev _ _ _ _;refine Ah fun _ w=>Y Aa (Y (A6 _ am_ag56 am_cl56) (Aq (Bf [[_,_,_]] true am_el380 am_ze56 am_cl56) (AW [_,_,_,_] am_el380 am_ze56 am_cl56 am_by56 (hh:=A3) (hr:=(A7 [(⟨_,_,_⟩:Int × Int × Int)])) (h:=Y Ad (Ac w ?_)))));show Ev _ _ _ _;refine Ah fun _ w=>Y Ax (Y Aa (Ac w (hR0 _ _ (A4 [0,5,2] [1,4,16,17] ⟨(pre ++ [s],suf),Bu hp,trivial⟩ B9 (Ag (h:=(Ag (he:=(by exact HX (Uy ‹_›))) (h:=(Ag (he:=(by exact IM (Uy ‹_›)))))))) (Ae (he:=(by congr 2;simp)) (h:=(Ae (he:=(by exact congrArg (fun k=>AV.als 1 0 k) GP))))) (.c (.c (.c (.c .n))))))));skip
  refine Ab fun _ w=>Y Bk (Y Ad (Ac w (Az (fun c6=>?_) (fun c6=>?_))))
  ·refine Ah fun _ w=>Y (An 1 am_fi56_1 am_cl3) (Y (Ao am_ag3) (Y Aa (Y Ax (Y (An 1 am_fi56_1 am_cl3) (Ar _ true [_,_,_] am_in3 am_cl3 (h:=Ac w ?_))))));show Ev _ _ _ _;refine Ah fun _ w=>Y Aa (Y (A6 _ am_ag56 am_cl56) (Aq (Bf [[_,_,_]] true am_el380 am_ze56 am_cl56) (AW [_,_,_,_] am_el380 am_ze56 am_cl56 am_by56 (hh:=A3) (hr:=(A7 [(⟨_,_,_⟩:Int × Int × Int)])) (h:=Y Ad (Ac w ?_)))));show Ev _ _ _ _;refine Ah fun _ w=>Y Ax (Y Aa (Ac w (hR0 _ _ (A4 [0,5,2] [1,4,16,17] ⟨(pre ++ [s],suf),Bu hp,trivial⟩ B9 (Ag (h:=(Ag (he:=(by exact HX (U1 ‹_›))) (h:=(Ag (he:=(by exact IM (U1 ‹_›)))))))) (Ae (he:=(by congr 2;simp)) (h:=(Ae (he:=(by exact congrArg (fun k=>AV.als 1 0 k) GP))))) (.c (.c (.c (.c .n))))))));skip
  refine Ab fun _ w=>Y Bk (Y Ad (Ac w (Az (fun c7=>?_) (fun c7=>?_))))
  ·refine Ah fun _ w=>Y (An 1 am_fi56_1 am_cl3) (Y (Ao am_ag3) (Y Aa (Y BK (Y (An 1 am_fi56_1 am_cl3) (Ar _ true [_,_,_] am_in3 am_cl3 (h:=Ac w ?_))))));show Ev _ _ _ _;refine Ah fun _ w=>Y Aa (Y (A6 _ am_ag56 am_cl56) (Aq (Bf [[_,_,_]] true am_el380 am_ze56 am_cl56) (AW [_,_,_,_] am_el380 am_ze56 am_cl56 am_by56 (hh:=A3) (hr:=(A7 [(⟨_,_,_⟩:Int × Int × Int)])) (h:=Y Ad (Ac w ?_)))));show Ev _ _ _ _;refine Ah fun _ w=>Y Ax (Y Aa (Ac w (hR0 _ _ (A4 [0,5,2] [1,4,16,17] ⟨(pre ++ [s],suf),Bu hp,trivial⟩ B9 (Ag (h:=(Ag (he:=(by exact HX (Uz ‹_›))) (h:=(Ag (he:=(by exact IM (Uz ‹_›)))))))) (Ae (he:=(by congr 2;simp)) (h:=(Ae (he:=(by exact congrArg (fun k=>AV.als 1 0 k) GP))))) (.c (.c (.c (.c .n))))))));skip
  refine Ab fun _ w=>Y Bk (Y Ad (Ac w (Az (fun c8=>?_) (fun c8=>?_))))
  ·refine Ah fun _ w=>Y (An 2 am_fi56_2 am_cl3) (Y (Ao am_ag3) (Y Aa (Y Ax (Y (An 2 am_fi56_2 am_cl3) (Ar _ true [_,_,_] am_in3 am_cl3 (h:=Ac w ?_))))));show Ev _ _ _ _;refine Ah fun _ w=>Y Aa (Y (A6 _ am_ag56 am_cl56) (Aq (Bf [[_,_,_]] true am_el380 am_ze56 am_cl56) (AW [_,_,_,_] am_el380 am_ze56 am_cl56 am_by56 (hh:=A3) (hr:=(A7 [(⟨_,_,_⟩:Int × Int × Int)])) (h:=Y Ad (Ac w ?_)))));show Ev _ _ _ _;refine Ah fun _ w=>Y Ax (Y Aa (Ac w (hR0 _ _ (A4 [0,5,2] [1,4,16,17] ⟨(pre ++ [s],suf),Bu hp,trivial⟩ B9 (Ag (h:=(Ag (he:=(by exact HX (U2 ‹_›))) (h:=(Ag (he:=(by exact IM (U2 ‹_›)))))))) (Ae (he:=(by congr 2;simp)) (h:=(Ae (he:=(by exact congrArg (fun k=>AV.als 1 0 k) GP))))) (.c (.c (.c (.c .n))))))));skip
  omega
 omega
theorem EM (p:P3) (m:Int) (hm:0≤m∧m≤1000000000):Fun Tryz.prog 360 [.agg (pntC p),iL m] (AI (bL (decide (Bl p m))) []):=by
 obtain ⟨a,b,c⟩:=p;refine Fun.of (nt:=26) (rs:=[.tmp 4]) Tryz.func360 rfl rfl rfl rfl rfl (Ab fun _ z=>Aq (Bo _ true) (Y Ad (Ac z (Ab fun _ z=>Y (An 0 am_fi56_0 am_cl3) (Y (Ao am_ag3) (Y (An 1 am_fi56_1 am_cl3) (Y (Ao am_ag3) (Y (An 2 am_fi56_2 am_cl3) (Y (Ao am_ag3) (Y Xq (Y Aa (Y F5 (Y BR (AS Aa (fun c1=>?_) (fun c1=>?_)))))))))))))))
 ·refine Y (An 0 am_fi56_0 am_cl3) (Y (Ao am_ag3) (Y (An 1 am_fi56_1 am_cl3) (Y (Ao am_ag3) (Y (An 2 am_fi56_2 am_cl3) (Y (Ao am_ag3) (Y Xp (Y Aa (Y Cb (Y AF (Y Ad (Ac z (Ai (Ap ?_)))))))))))));exact dI ⟨fun h=>by unfold Bl;dsimp only;omega,fun h=>by unfold Bl at h;dsimp only at h;omega⟩
 refine Au (Au (Au (Au (Bq (Y AE (Y Ad (Ac z (Ai (Ap ?_)))))))));exact bF (fun h=>by unfold Bl at h;dsimp only at h;omega)
theorem FT (p q:P3) (k:Int) (hp:Bl p 100000000) (hq:Bl q 2097152) (hk:0≤k∧k≤1000):Fun Tryz.prog 362 [.agg (pntC p), .agg (pntC q),iL k] (AI (.agg (pntC (D6 p q k))) []):=by
 obtain ⟨a,b,c⟩:=p;obtain ⟨d,e,f⟩:=q
 unfold Bl at hp hq
 dsimp only at hp hq
 have m1:=CR (a:=k) (b:=d) (A:=1000) (B:=2097152) (by omega) hq.1;have m2:=CR (a:=k) (b:=e) (A:=1000) (B:=2097152) (by omega) hq.2.1;have m3:=CR (a:=k) (b:=f) (A:=1000) (B:=2097152) (by omega) hq.2.2;refine Fun.of (nt:=29) (rs:=[.cell 6 56]) Tryz.func362 rfl rfl rfl rfl rfl (Ab fun _ z=>Aq (Bo _ true) (Aq (Bo _ true) (Aq (AT am_ze56) (Ac z (Ab fun _ z=>Y (An 0 am_fi56_0 am_cl3) (Y (Ao am_ag3) (Y Aa (Y (An 0 am_fi56_0 am_cl3) (Y (Ao am_ag3) (Y BC (Y Ax (Y (An 1 am_fi56_1 am_cl3) (Y (Ao am_ag3) (Y Aa (Y (An 1 am_fi56_1 am_cl3) (Y (Ao am_ag3) (Y BC (Y Ax (Y (An 2 am_fi56_2 am_cl3) (Y (Ao am_ag3) (Y Aa (Y (An 2 am_fi56_2 am_cl3) (Y (Ao am_ag3) (Y BC (Y Ax (Y (Bg _ am_ze56 am_pl56) (Ar _ true [_,_] am_in56 am_cl56 (h:=Ac z (Ai (B1 (Bp [_,_,_] am_ag56 am_cl56 res_n) (⟨?_,rfl⟩)))))))))))))))))))))))))))))));rfl
theorem S5 (mk:List UInt8) (b:Bar):Fun Tryz.prog 428 [.agg b.c, .sadr [sL mk] 0] (AI (bL (decide (b.mark=mk))) []):=by
 refine Fun.of (nt:=8) (rs:=[.tmp 3]) Tryz.func428 rfl rfl rfl rfl rfl (Ab fun _ z=>Aq (Bo _ true) (Y Ad (Ac z (Ab fun _ z=>Y (An 0 am_fi168_0 am_cl9) (Y (Ao am_ag9) (Y (AO am_ag9) (Y DY (Y Ad (Ac z (Ai (Ap ?_)))))))))));rfl
theorem JN (l:List Bar) (mk:List UInt8) (hlen:l.length≤140737488355328):Fun Tryz.prog 358 [.sh 5 (l.map Bar.c),sL mk] (AI (iL (CE l mk)) []):=by
 refine Fun.of (nt:=8) (rs:=[.tmp 4]) Tryz.func358 rfl rfl rfl rfl rfl (Ab fun _ z=>Aq (Bo _ true) (Y Ad (Ac z (Ab fun _ z=>Y Aa (Y EE (Ay (hF:=Hc _ _ _ (S5 mk) l (by omega)) (h:=Y Ad (Ac z (Ai (Ap ?_))))))))));rfl
theorem HU (l:List Bar) (mk:List UInt8): -1≤CE l mk∧CE l mk < (l.length:Int):=by
 have:∀ (l:List Bar) (k:Int),0≤k→ -1≤Cn (fun b:Bar=>decide (b.mark=mk)) l k∧Cn (fun b:Bar=>decide (b.mark=mk)) l k < k+(l.length:Int)∨Cn (fun b:Bar=>decide (b.mark=mk)) l k= -1:=by
  intro l
  induction l with
  |nil=>intro k hk;exact .inr rfl
  |cons x l ih =>
   intro k hk;rw [Cn]
   split
   ·left;simp only [List.length_cons];omega
   rcases ih (k+1) (by omega) with h | h
   ·left;simp only [List.length_cons];omega
   exact .inr h
 rcases this l 0 (by omega) with h | h
 ·unfold CE;omega
 unfold CE;omega
theorem G0 {l:List Bar} {mk:List UInt8} (h:0≤CE l mk):l[(CE l mk).toNat]?= some (Cy l mk):=by
 have h1:=HU l mk;have e:l[(CE l mk).toNat]?= some (l[(CE l mk).toNat]'(by omega)):=List.getElem?_eq_getElem _;rw [Cy,e];rfl
theorem G1 {l:List Bar} {mk:List UInt8} (h:0≤CE l mk):Cy l mk ∈ l:=List.mem_of_getElem? (G0 h)
theorem Jw (bars:List Bar) (r:Rn) (hlen:bars.length≤140737488355328) (hw:Ce bars) (h:0≤CE bars r.mark):Fun Tryz.prog 361 [.sh 5 (bars.map Bar.c), .agg r.c] (AI (.sh 3 ((B6 bars r).map pntC)) []):=by
 have hmb:=HU bars r.mark;have hlg:=G0 h;have hwl:=hw _ (G1 h);have hsl:=Li (Cy bars r.mark);refine Fun.of (nt:=29) (rs:=[.tmp 4]) Tryz.func361 rfl rfl rfl rfl rfl (Ab fun _ z=>Aq (Bo _ true) (Y Ad (Ac z (Ab fun _ z=>Y Aa (Y Aa (Y (An 0 am_fi194_0 am_cl9) (Y (Ao am_ag9) (Ay (hF:=JN bars r.mark hlen) (h:=Y (AQ am_el22 am_cl168 (hl:=(by exact Ba hlg (by omega)))) (Y (Bv _ am_ag168 am_cl168) (Ay (hF:=NN (Cy bars r.mark) hwl) (h:=Y Aa (Y AH (Y AH (Y Ad (Y Ad (Ac z (Ab fun _ z=>Y (An 1 am_fi194_1 am_cl192) (Y (A6 _ am_ag192 am_cl192) (Y (Bg _ am_ze56 am_pl56) (Y Aa (Ay (hF:=ND r.tx r.ty (0,0,0) (Ia (Cy bars r.mark)) (by omega)) (h:=Y Aa (Y AH (Y AH (Y Ad (Y Ad (Ac z (Ab fun _ z=>Y Aa (Y Ad (Ac z (Ai (Ap ?_)))))))))))))))))))))))))))))))));rfl
theorem GX {bars:List Bar} {r:Rn} {p:P3} (h:p ∈ B6 bars r):Bl p 10000000:=by
 unfold B6 MW at h
 split at h
 ·rename_i he
  obtain ⟨q,hq,rfl⟩:=List.mem_map.1 h
  have hn:DV (Ia (Cy bars r.mark)):=by
   unfold JJ at he
   by_cases h1:Ch r.tx r.ty
   ·rw [if_pos h1] at he
    by_cases h2:(Ia (Cy bars r.mark)).length≤1000
    ·rw [if_pos h2] at he
     by_cases h3:Cq (0,0,0)∧DV (Ia (Cy bars r.mark))
     ·exact h3.2
     rw [if_neg h3] at he;omega
    rw [if_neg h2] at he;omega
   rw [if_neg h1] at he;omega
  have hq1:=hn q hq;obtain ⟨e1,e2⟩:=FM (x:=r.tx) (y:=r.ty) hq1 1;obtain ⟨e3,e4⟩:=FM (x:=r.tx) (y:=r.ty) hq1 2;obtain ⟨e5,e6⟩:=FM (x:=r.tx) (y:=r.ty) hq1 3;obtain ⟨e7,e8,e9⟩:=L8 (x:=r.tx) (y:=r.ty) hq1
  unfold Bl C8 Ei
  dsimp only
  omega
 cases h
theorem IE (bars:List Bar) (r:Rn):(B6 bars r).length≤7:=by
 have:=Li (Cy bars r.mark)
 unfold B6 MW
 split
 ·rw [List.length_map];omega
 simp
theorem C6 {p:P3} {a b:Int} (h:Bl p a) (hab:a≤b):Bl p b:=by
 unfold Bl at *
 omega
theorem Q0 {p q:P3} {k:Int} (hp:Bl p 10000000) (hq:Bl q 2097152) (hk:k=1):Bl (D6 p q k) 100000000:=by
 subst hk
 unfold Bl D6 at *
 dsimp only
 omega
theorem M9 {r:Rn} {k:Int} {p:P3} (h:k > 0):DG r k p=D6 (D6 p r.at 1) r.st k:=if_pos h
theorem IC {r:Rn} {k:Int} {p:P3} (h:¬ k > 0):DG r k p=D6 p r.at 1:=if_neg h
def Ky (bars:List Bar) (r:Rn) (k:Nat):Prop:=(1≤k→∀ p ∈ B6 bars r,Bl (DG r 0 p) 1048576)∧(2≤k→∀ p ∈ B6 bars r,Bl (DG r (r.n - 1) p) 1048576)
theorem NL (bars:List Bar) (r:Rn) (hlen:bars.length≤140737488355328) (hw:Ce bars) (hrw:r.mark.length≤140737488355328):Fun Tryz.prog 256 [.sh 5 (bars.map Bar.c), .agg r.c] (AI (bL (decide (Dv bars r))) []):=by
 have hmb:=HU bars r.mark;have htl:=IE bars r;refine Fun.of (nt:=87) (rs:=[.tmp 4]) Tryz.func256 rfl rfl rfl rfl rfl (Ab fun _ z=>Aq (Bo _ true) (Y Ad (Ac z (Aj (Ab fun _ z=>Y Aa (Y (An 0 am_fi194_0 am_cl9) (Y (Ao am_ag9) (Ay (hF:=JN bars r.mark hlen) (h:=Y As (AS Aa (fun c1=>?_) (fun c1=>?_)))))))))))
 ·refine Au (Au (Y AF (Y Aa (Au (Bq (Y AF (Y Aa (Au (Bq (Y AF (Y Aa (Au (Au (Y AF (Ac z (BI (Ab fun _ z=>Y Ad (Ac z (Ai (Ap ?_))))))))))))))))))));exact bF (fun h=>by have h1:=h.1;omega)
 refine Y (An 1 am_fi194_1 am_cl192) (Y (A6 _ am_ag192 am_cl192) (Ay (hF:=J6 r.tx r.ty) (h:=Y Bw (Y AE (Dc Aa (fun c2=>?_) (fun c2=>?_))))))
 ·refine Au (Bq (Y AF (Y Aa (Au (Bq (Y AF (Y Aa (Au (Au (Y AF (Ac z (BI (Ab fun _ z=>Y Ad (Ac z (Ai (Ap ?_))))))))))))))));exact bF (fun h=>absurd h.2.1 ‹¬ Ch r.tx r.ty›)
 refine Y (An 9 am_fi194_4 am_cl3) (Y (Ao am_ag3) (Y As (Y AE (AS Aa (fun c3=>?_) (fun c3=>?_)))))
 ·refine Au (Bq (Y AF (Y Aa (Au (Au (Y AF (Ac z (BI (Ab fun _ z=>Y Ad (Ac z (Ai (Ap ?_))))))))))));exact bF (fun h=>by have h1:=h.2.2.1;omega)
 refine Y (An 9 am_fi194_4 am_cl3) (Y (Ao am_ag3) (Y Be (Y AE (AS Aa (fun c4=>?_) (fun c4=>?_)))))
 ·refine Au (Au (Y AF (Ac z (BI (Ab fun _ z=>Y Ad (Ac z (Ai (Ap ?_))))))));exact bF (fun h=>by have h1:=h.2.2.1;omega)
 refine Y (An 3 am_fi194_2 am_cl56) (Y (A6 _ am_ag56 am_cl56) (Ay (hF:=EM r.at 1048576 (by omega)) (h:=Y Bw (Y AE (Ac z (Bh (fun c5=>?_) (fun c5=>?_)))))))
 ·refine Ab fun _ z=>Y Ad (Ac z (Ai (Ap ?_)));exact bF (fun h=>absurd h.2.2.2.1 ‹¬ Bl r.at 1048576›)
 refine Am (Aj (Ab fun _ z=>Y (An 9 am_fi194_4 am_cl3) (Y (Ao am_ag3) (Y Be (AS Aa (fun c6=>?_) (fun c6=>?_))))))
 ·refine Y (An 6 am_fi194_3 am_cl56) (Y (A6 _ am_ag56 am_cl56) (Y (Bg _ am_ze56 am_pl56) (Y (Th am_eq56 (Qj _ _ _ _ _ _)) (HA Aa (fun c7=>?_) (fun c7=>?_)))))
  ·refine Au (Au (Y AF (Y AF (Ac z (BI (Ab fun _ z=>Y Ad (Ac z (Ai (Ap ?_)))))))));exact bF (fun h=>by have h1:=(h.2.2.2.2.1 (by omega)).1;simp_all)
  refine Y (An 6 am_fi194_3 am_cl56) (Y (A6 _ am_ag56 am_cl56) (Ay (hF:=EM r.st 2097152 (by omega)) (h:=Y Bw (Y AE (Y AF (Ac z (Bh (fun c8=>?_) (fun c8=>?_))))))))
  ·refine Ab fun _ z=>Y Ad (Ac z (Ai (Ap ?_)));exact bF (fun h=>absurd (h.2.2.2.2.1 (by omega)).2 ‹¬ Bl r.st 2097152›)
  refine Am ?_;have hto:Ch r.tx r.ty:= ‹_›;have hat:Bl r.at 1048576:= ‹_›
  have hst:r.n > 1→Bl r.st 2097152:=by exact fun _=> ‹Bl r.st 2097152›
  have hst2:r.n > 1→¬ (r.sx=0∧r.sy=0∧r.sz=0):=by intro _ hz;simp_all
  refine Ab fun _ z=>Y Aa (Y (A6 _ am_ag194 am_cl194) (Ay (hF:=Jw bars r hlen hw (by omega)) (h:=Y Ad (Ac z (Aj (Ab fun _ z=>Y (An 9 am_fi194_4 am_cl3) (Y (Ao am_ag3) (Y BK (Aq (Bf [[_],[_]] true am_el24 am_ze3 am_cl3) (Y (Fq am_el24) (Y Aa (Ac z (Ev.block (AC (ι:={k:Nat // k≤2∧Ky bars r k}) [1,0] [3,5,60] (fun ⟨k,_⟩=>[(61,iL (k:Int)),(59, .als 0 0 ([0,r.n - 1]).length)]) (fun ⟨k,_⟩=>[(0,⟨true,3,1,([0,r.n - 1]).map AD,true⟩),(1,⟨false,194,10,[[sL (r.mark),iL (r.tx),iL (r.ty),iL (r.ax),iL (r.ay),iL (r.az),iL (r.sx),iL (r.sy),iL (r.sz),iL (r.n)]],true⟩)]) (fun ⟨k,_⟩=>2 - k) ⟨0,by decide,fun h=>absurd h (by decide),fun h=>absurd h (by decide)⟩ (.c (.c (.c .n))) (Ag (h:=(Ag))) (Ae (h:=(Ae))) ?_))))))))))))));rintro ⟨k,hk,hok⟩ R0 hR0;dsimp only [cA,nA,lC,lN]
  have hk3:k=2∨k=0∨k=1:=by omega
  rcases hk3 with hk3 | hk3 | hk3
  ·subst hk3;refine Ab fun _ z=>Y As (Ac z (AG (fun c9=>?_) (fun c9=>?_)))
   ·omega
   refine AA (hR0 _ _ (Ab fun _ z=>Y Ad (Ac z (Ai (Ap ?_)))));exact bT ⟨by omega,hto,by omega,hat,fun h=>⟨hst2 h,hst h⟩,hok.1 (by omega),hok.2 (by omega)⟩
  ·subst hk3;obtain ⟨v,hv⟩:∃ v:Int,v=0:=⟨_,rfl⟩
   have hidx:[0,r.n - 1][0]?= some v:=by rw [hv];rfl
   have hv0:0≤v∧v≤1000∧(v > 0→r.n > 1):=by omega
   have hnx:(∀ p ∈ B6 bars r,Bl (DG r v p) 1048576)→Ky bars r 1:=fun h=>⟨fun _=>by rw [← hv];exact h,fun h2=>absurd h2 (by decide)⟩
   have hall0:Dv bars r→∀ p ∈ B6 bars r,Bl (DG r v p) 1048576:=fun h=>by rw [hv];exact h.2.2.2.2.2.1
   refine Ab fun _ z=>Y As (Ac z (AG (fun c10=>?_) (fun c10=>?_)))
   ·refine Aj (Ev.block (Ab fun _ z=>Y (BT am_el24 am_cl3) (Y (Ee am_ag3 (hl:=(by exact at_ hidx (by omega)))) (Y Ad (Ac z (Ab fun _ z=>Y Aa (Y (A5 am_el380) (Y Aa (Ac z (Ev.block (AC (ι:={q:List (Int × Int × Int) × List (Int × Int × Int) // q.1 ++ q.2=B6 bars r∧∀ p ∈ q.1,Bl (DG r v p) 1048576}) [0,1] [3,5,7,60,61,65,66] (fun ⟨(pre,suf),_⟩=>[(67,iL (pre.length:Int)),(59, .als 0 0 ([0,r.n - 1]).length)]) (fun ⟨(pre,suf),_⟩=>[(0,⟨true,3,1,([0,r.n - 1]).map AD,true⟩),(1,⟨false,194,10,[[sL (r.mark),iL (r.tx),iL (r.ty),iL (r.ax),iL (r.ay),iL (r.az),iL (r.sx),iL (r.sy),iL (r.sz),iL (r.n)]],true⟩)]) (fun ⟨(pre,suf),_⟩=>suf.length) ⟨([],(B6 bars r)),rfl,fun x hx=>by simp at hx⟩ (.c (.c (.c (.c (.c (.c (.c .n))))))) (Ag (h:=(Ag))) (Ae (h:=(Ae))) ?_)))))))))));rintro ⟨⟨pre,suf⟩,hp,hinv⟩ R2 hR2;dsimp only [cA,nA,lC,lN]
    simp only at hp hinv
    have hpl:=BO hp
    rcases suf with _ | ⟨s,suf⟩
    ·rw [List.append_nil] at hp;simp only [lN] at hpl;refine Ab fun _ z=>Y As (Ac z (AG (fun c11=>?_) (fun c11=>?_)))
     ·omega
     refine AA (hR2 _ _ (Ah fun _ z=>Y Ax (Y Aa (Ac z (hR0 _ _ (A4 [0,1] [3,5,60] ⟨_,by decide,hnx (by rw [← hp];exact hinv)⟩ ?_ (Ag (h:=(Ag))) (Ae (h:=(Ae))) (.c (.c (.c .n)))))))));skip;all_goals (dsimp only;omega)
    simp only [lC] at hpl
    have hidx2:(B6 bars r)[pre.length]?= some s:=by rw [← hp];simp
    have hms:=Gn hp;obtain ⟨a,b,c⟩:=s;have hpb:=GX hms;have hall:=fun h=>hall0 h _ hms;refine Ab fun _ z=>Y As (Ac z (AG (fun c12=>?_) (fun c12=>?_)))
    ·refine Aj (Ev.block (Ab fun _ z=>Y (AQ am_el380 am_cl56 (hl:=(by exact Ba hidx2 (by omega)))) (Y (Bv _ am_ag56 am_cl56) (Aq (AT am_ze56) (Ar _ true [_,_] am_in56 am_cl56 (h:=Ac z (Ab fun _ z=>Y (A6 _ am_ag56 am_cl56) (Y (An 3 am_fi194_2 am_cl56) (Y (A6 _ am_ag56 am_cl56) (Ay (hF:=FT (a,b,c) r.at 1 (C6 hpb (by omega)) (C6 hat (by omega)) (by omega)) (h:=Aq (AT am_ze56) (Ar _ true [_,_,_] am_in56 am_cl56 (h:=Ac z (Aj (Ab fun _ z=>Y Aa (Y Be (Ac z (Az (fun c13=>?_) (fun c13=>?_)))))))))))))))))))
     ·omega
     refine Am (Ab fun _ z=>Y (A6 _ am_ag56 am_cl56) (Ay (hF:=(by exact EM (D6 (a,b,c) r.at 1) 1048576 (by omega))) (h:=Y Bw (Ac z (Bh (fun c15=>?_) (fun c15=>?_))))))
     ·refine Ab fun _ z=>Y Ad (Ac z (Ai (hR2 _ _ (hR0 _ _ (Ap ?_)))));exact bF (fun h=>by have h1:=hall h;rw [IC ‹_›] at h1;exact absurd h1 ‹_›)
     refine Am (Ah fun _ z=>Y Ax (Y Aa (Ac z (hR2 _ _ (A4 [0,1] [3,5,7,60,61,65,66] ⟨(pre ++ [(a,b,c)],suf),Bu hp,?_⟩ B9 (Ag (h:=(Ag))) (Ae (he:=(by congr 2;simp)) (h:=(Ae))) (.c (.c (.c (.c (.c (.c (.c .n))))))))))));intro x hx
     rcases List.mem_append.1 hx with hx | hx
     ·exact hinv x hx
     ·rw [List.mem_singleton] at hx;subst hx;(rw [IC ‹_›];assumption)
    omega
   omega
  subst hk3;obtain ⟨v,hv⟩:∃ v:Int,v=r.n - 1:=⟨_,rfl⟩
  have hidx:[0,r.n - 1][1]?= some v:=by rw [hv];rfl
  have hv0:0≤v∧v≤1000∧(v > 0→r.n > 1):=by omega
  have hnx:(∀ p ∈ B6 bars r,Bl (DG r v p) 1048576)→Ky bars r 2:=fun h=>⟨fun _=>hok.1 (by decide),fun _=>by rw [← hv];exact h⟩
  have hall0:Dv bars r→∀ p ∈ B6 bars r,Bl (DG r v p) 1048576:=fun h=>by rw [hv];exact h.2.2.2.2.2.2
  refine Ab fun _ z=>Y As (Ac z (AG (fun c16=>?_) (fun c16=>?_)))
  ·refine Aj (Ev.block (Ab fun _ z=>Y (BT am_el24 am_cl3) (Y (Ee am_ag3 (hl:=(by exact at_ hidx (by omega)))) (Y Ad (Ac z (Ab fun _ z=>Y Aa (Y (A5 am_el380) (Y Aa (Ac z (Ev.block (AC (ι:={q:List (Int × Int × Int) × List (Int × Int × Int) // q.1 ++ q.2=B6 bars r∧∀ p ∈ q.1,Bl (DG r v p) 1048576}) [0,1] [3,5,7,60,61,65,66] (fun ⟨(pre,suf),_⟩=>[(67,iL (pre.length:Int)),(59, .als 0 0 ([0,r.n - 1]).length)]) (fun ⟨(pre,suf),_⟩=>[(0,⟨true,3,1,([0,r.n - 1]).map AD,true⟩),(1,⟨false,194,10,[[sL (r.mark),iL (r.tx),iL (r.ty),iL (r.ax),iL (r.ay),iL (r.az),iL (r.sx),iL (r.sy),iL (r.sz),iL (r.n)]],true⟩)]) (fun ⟨(pre,suf),_⟩=>suf.length) ⟨([],(B6 bars r)),rfl,fun x hx=>by simp at hx⟩ (.c (.c (.c (.c (.c (.c (.c .n))))))) (Ag (h:=(Ag))) (Ae (h:=(Ae))) ?_)))))))))));rintro ⟨⟨pre,suf⟩,hp,hinv⟩ R2 hR2;dsimp only [cA,nA,lC,lN]
   simp only at hp hinv
   have hpl:=BO hp
   rcases suf with _ | ⟨s,suf⟩
   ·rw [List.append_nil] at hp;simp only [lN] at hpl;refine Ab fun _ z=>Y As (Ac z (AG (fun c17=>?_) (fun c17=>?_)))
    ·omega
    refine AA (hR2 _ _ (Ah fun _ z=>Y Ax (Y Aa (Ac z (hR0 _ _ (A4 [0,1] [3,5,60] ⟨_,by decide,hnx (by rw [← hp];exact hinv)⟩ ?_ (Ag (h:=(Ag))) (Ae (h:=(Ae))) (.c (.c (.c .n)))))))));skip;all_goals (dsimp only;omega)
   simp only [lC] at hpl
   have hidx2:(B6 bars r)[pre.length]?= some s:=by rw [← hp];simp
   have hms:=Gn hp;obtain ⟨a,b,c⟩:=s;have hpb:=GX hms;have hall:=fun h=>hall0 h _ hms;refine Ab fun _ z=>Y As (Ac z (AG (fun c18=>?_) (fun c18=>?_)))
   ·refine Aj (Ev.block (Ab fun _ z=>Y (AQ am_el380 am_cl56 (hl:=(by exact Ba hidx2 (by omega)))) (Y (Bv _ am_ag56 am_cl56) (Aq (AT am_ze56) (Ar _ true [_,_] am_in56 am_cl56 (h:=Ac z (Ab fun _ z=>Y (A6 _ am_ag56 am_cl56) (Y (An 3 am_fi194_2 am_cl56) (Y (A6 _ am_ag56 am_cl56) (Ay (hF:=FT (a,b,c) r.at 1 (C6 hpb (by omega)) (C6 hat (by omega)) (by omega)) (h:=Aq (AT am_ze56) (Ar _ true [_,_,_] am_in56 am_cl56 (h:=Ac z (Aj (Ab fun _ z=>Y Aa (Y Be (Ac z (Az (fun c19=>?_) (fun c19=>?_)))))))))))))))))))
    ·refine Ah fun _ z=>Y (A6 _ am_ag56 am_cl56) (Y (An 6 am_fi194_3 am_cl56) (Y (A6 _ am_ag56 am_cl56) (Y Aa (Ay (hF:=FT (D6 (a,b,c) r.at 1) r.st v (Q0 hpb (C6 hat (by omega)) rfl) (hst (by omega)) (by omega)) (h:=Ar _ true [_,_,_] am_in56 am_cl56 (h:=Ac z ?_))))));show Ev _ _ _ _;refine Ab fun _ z=>Y (A6 _ am_ag56 am_cl56) (Ay (hF:=(by exact EM (D6 (D6 (a,b,c) r.at 1) r.st v) 1048576 (by omega))) (h:=Y Bw (Ac z (Bh (fun c20=>?_) (fun c20=>?_)))))
     ·refine Ab fun _ z=>Y Ad (Ac z (Ai (hR2 _ _ (hR0 _ _ (Ap ?_)))));exact bF (fun h=>by have h1:=hall h;rw [M9 ‹_›] at h1;exact absurd h1 ‹_›)
     refine Am (Ah fun _ z=>Y Ax (Y Aa (Ac z (hR2 _ _ (A4 [0,1] [3,5,7,60,61,65,66] ⟨(pre ++ [(a,b,c)],suf),Bu hp,?_⟩ B9 (Ag (h:=(Ag))) (Ae (he:=(by congr 2;simp)) (h:=(Ae))) (.c (.c (.c (.c (.c (.c (.c .n))))))))))));intro x hx
     rcases List.mem_append.1 hx with hx | hx
     ·exact hinv x hx
     ·rw [List.mem_singleton] at hx;subst hx;(rw [M9 ‹_›];assumption)
    omega
   omega
  omega
 refine Au (Au (Au (Au (Au (Y AE (Ac z (Cw (Am ?_))))))));have hto:Ch r.tx r.ty:= ‹_›;have hat:Bl r.at 1048576:= ‹_›
 have hst:r.n > 1→Bl r.st 2097152:=by exact fun h=>absurd h (by omega)
 have hst2:r.n > 1→¬ (r.sx=0∧r.sy=0∧r.sz=0):=by exact fun h=>absurd h (by omega)
 refine Ab fun _ z=>Y Aa (Y (A6 _ am_ag194 am_cl194) (Ay (hF:=Jw bars r hlen hw (by omega)) (h:=Y Ad (Ac z (Aj (Ab fun _ z=>Y (An 9 am_fi194_4 am_cl3) (Y (Ao am_ag3) (Y BK (Aq (Bf [[_],[_]] true am_el24 am_ze3 am_cl3) (Y (Fq am_el24) (Y Aa (Ac z (Ev.block (AC (ι:={k:Nat // k≤2∧Ky bars r k}) [1,0] [3,5,60] (fun ⟨k,_⟩=>[(61,iL (k:Int)),(59, .als 0 0 ([0,r.n - 1]).length)]) (fun ⟨k,_⟩=>[(0,⟨true,3,1,([0,r.n - 1]).map AD,true⟩),(1,⟨false,194,10,[[sL (r.mark),iL (r.tx),iL (r.ty),iL (r.ax),iL (r.ay),iL (r.az),iL (r.sx),iL (r.sy),iL (r.sz),iL (r.n)]],true⟩)]) (fun ⟨k,_⟩=>2 - k) ⟨0,by decide,fun h=>absurd h (by decide),fun h=>absurd h (by decide)⟩ (.c (.c (.c .n))) (Ag (h:=(Ag))) (Ae (h:=(Ae))) ?_))))))))))))));rintro ⟨k,hk,hok⟩ R0 hR0;dsimp only [cA,nA,lC,lN]
 have hk3:k=2∨k=0∨k=1:=by omega
 rcases hk3 with hk3 | hk3 | hk3
 ·subst hk3;refine Ab fun _ z=>Y As (Ac z (AG (fun c22=>?_) (fun c22=>?_)))
  ·omega
  refine AA (hR0 _ _ (Ab fun _ z=>Y Ad (Ac z (Ai (Ap ?_)))));exact bT ⟨by omega,hto,by omega,hat,fun h=>⟨hst2 h,hst h⟩,hok.1 (by omega),hok.2 (by omega)⟩
 ·subst hk3;obtain ⟨v,hv⟩:∃ v:Int,v=0:=⟨_,rfl⟩
  have hidx:[0,r.n - 1][0]?= some v:=by rw [hv];rfl
  have hv0:0≤v∧v≤1000∧(v > 0→r.n > 1):=by omega
  have hnx:(∀ p ∈ B6 bars r,Bl (DG r v p) 1048576)→Ky bars r 1:=fun h=>⟨fun _=>by rw [← hv];exact h,fun h2=>absurd h2 (by decide)⟩
  have hall0:Dv bars r→∀ p ∈ B6 bars r,Bl (DG r v p) 1048576:=fun h=>by rw [hv];exact h.2.2.2.2.2.1
  refine Ab fun _ z=>Y As (Ac z (AG (fun c23=>?_) (fun c23=>?_)))
  ·refine Aj (Ev.block (Ab fun _ z=>Y (BT am_el24 am_cl3) (Y (Ee am_ag3 (hl:=(by exact at_ hidx (by omega)))) (Y Ad (Ac z (Ab fun _ z=>Y Aa (Y (A5 am_el380) (Y Aa (Ac z (Ev.block (AC (ι:={q:List (Int × Int × Int) × List (Int × Int × Int) // q.1 ++ q.2=B6 bars r∧∀ p ∈ q.1,Bl (DG r v p) 1048576}) [0,1] [3,5,7,60,61,65,66] (fun ⟨(pre,suf),_⟩=>[(67,iL (pre.length:Int)),(59, .als 0 0 ([0,r.n - 1]).length)]) (fun ⟨(pre,suf),_⟩=>[(0,⟨true,3,1,([0,r.n - 1]).map AD,true⟩),(1,⟨false,194,10,[[sL (r.mark),iL (r.tx),iL (r.ty),iL (r.ax),iL (r.ay),iL (r.az),iL (r.sx),iL (r.sy),iL (r.sz),iL (r.n)]],true⟩)]) (fun ⟨(pre,suf),_⟩=>suf.length) ⟨([],(B6 bars r)),rfl,fun x hx=>by simp at hx⟩ (.c (.c (.c (.c (.c (.c (.c .n))))))) (Ag (h:=(Ag))) (Ae (h:=(Ae))) ?_)))))))))));rintro ⟨⟨pre,suf⟩,hp,hinv⟩ R2 hR2;dsimp only [cA,nA,lC,lN]
   simp only at hp hinv
   have hpl:=BO hp
   rcases suf with _ | ⟨s,suf⟩
   ·rw [List.append_nil] at hp;simp only [lN] at hpl;refine Ab fun _ z=>Y As (Ac z (AG (fun c24=>?_) (fun c24=>?_)))
    ·omega
    refine AA (hR2 _ _ (Ah fun _ z=>Y Ax (Y Aa (Ac z (hR0 _ _ (A4 [0,1] [3,5,60] ⟨_,by decide,hnx (by rw [← hp];exact hinv)⟩ ?_ (Ag (h:=(Ag))) (Ae (h:=(Ae))) (.c (.c (.c .n)))))))));skip;all_goals (dsimp only;omega)
   simp only [lC] at hpl
   have hidx2:(B6 bars r)[pre.length]?= some s:=by rw [← hp];simp
   have hms:=Gn hp;obtain ⟨a,b,c⟩:=s;have hpb:=GX hms;have hall:=fun h=>hall0 h _ hms;refine Ab fun _ z=>Y As (Ac z (AG (fun c25=>?_) (fun c25=>?_)))
   ·refine Aj (Ev.block (Ab fun _ z=>Y (AQ am_el380 am_cl56 (hl:=(by exact Ba hidx2 (by omega)))) (Y (Bv _ am_ag56 am_cl56) (Aq (AT am_ze56) (Ar _ true [_,_] am_in56 am_cl56 (h:=Ac z (Ab fun _ z=>Y (A6 _ am_ag56 am_cl56) (Y (An 3 am_fi194_2 am_cl56) (Y (A6 _ am_ag56 am_cl56) (Ay (hF:=FT (a,b,c) r.at 1 (C6 hpb (by omega)) (C6 hat (by omega)) (by omega)) (h:=Aq (AT am_ze56) (Ar _ true [_,_,_] am_in56 am_cl56 (h:=Ac z (Aj (Ab fun _ z=>Y Aa (Y Be (Ac z (Az (fun c26=>?_) (fun c26=>?_)))))))))))))))))))
    ·omega
    refine Am (Ab fun _ z=>Y (A6 _ am_ag56 am_cl56) (Ay (hF:=(by exact EM (D6 (a,b,c) r.at 1) 1048576 (by omega))) (h:=Y Bw (Ac z (Bh (fun c28=>?_) (fun c28=>?_))))))
    ·refine Ab fun _ z=>Y Ad (Ac z (Ai (hR2 _ _ (hR0 _ _ (Ap ?_)))));exact bF (fun h=>by have h1:=hall h;rw [IC ‹_›] at h1;exact absurd h1 ‹_›)
    refine Am (Ah fun _ z=>Y Ax (Y Aa (Ac z (hR2 _ _ (A4 [0,1] [3,5,7,60,61,65,66] ⟨(pre ++ [(a,b,c)],suf),Bu hp,?_⟩ B9 (Ag (h:=(Ag))) (Ae (he:=(by congr 2;simp)) (h:=(Ae))) (.c (.c (.c (.c (.c (.c (.c .n))))))))))));intro x hx
    rcases List.mem_append.1 hx with hx | hx
    ·exact hinv x hx
    ·rw [List.mem_singleton] at hx;subst hx;(rw [IC ‹_›];assumption)
   omega
  omega
 subst hk3;obtain ⟨v,hv⟩:∃ v:Int,v=r.n - 1:=⟨_,rfl⟩
 have hidx:[0,r.n - 1][1]?= some v:=by rw [hv];rfl
 have hv0:0≤v∧v≤1000∧(v > 0→r.n > 1):=by omega
 have hnx:(∀ p ∈ B6 bars r,Bl (DG r v p) 1048576)→Ky bars r 2:=fun h=>⟨fun _=>hok.1 (by decide),fun _=>by rw [← hv];exact h⟩
 have hall0:Dv bars r→∀ p ∈ B6 bars r,Bl (DG r v p) 1048576:=fun h=>by rw [hv];exact h.2.2.2.2.2.2
 refine Ab fun _ z=>Y As (Ac z (AG (fun c29=>?_) (fun c29=>?_)))
 ·refine Aj (Ev.block (Ab fun _ z=>Y (BT am_el24 am_cl3) (Y (Ee am_ag3 (hl:=(by exact at_ hidx (by omega)))) (Y Ad (Ac z (Ab fun _ z=>Y Aa (Y (A5 am_el380) (Y Aa (Ac z (Ev.block (AC (ι:={q:List (Int × Int × Int) × List (Int × Int × Int) // q.1 ++ q.2=B6 bars r∧∀ p ∈ q.1,Bl (DG r v p) 1048576}) [0,1] [3,5,7,60,61,65,66] (fun ⟨(pre,suf),_⟩=>[(67,iL (pre.length:Int)),(59, .als 0 0 ([0,r.n - 1]).length)]) (fun ⟨(pre,suf),_⟩=>[(0,⟨true,3,1,([0,r.n - 1]).map AD,true⟩),(1,⟨false,194,10,[[sL (r.mark),iL (r.tx),iL (r.ty),iL (r.ax),iL (r.ay),iL (r.az),iL (r.sx),iL (r.sy),iL (r.sz),iL (r.n)]],true⟩)]) (fun ⟨(pre,suf),_⟩=>suf.length) ⟨([],(B6 bars r)),rfl,fun x hx=>by simp at hx⟩ (.c (.c (.c (.c (.c (.c (.c .n))))))) (Ag (h:=(Ag))) (Ae (h:=(Ae))) ?_)))))))))));rintro ⟨⟨pre,suf⟩,hp,hinv⟩ R2 hR2;dsimp only [cA,nA,lC,lN]
  simp only at hp hinv
  have hpl:=BO hp
  rcases suf with _ | ⟨s,suf⟩
  ·rw [List.append_nil] at hp;simp only [lN] at hpl;refine Ab fun _ z=>Y As (Ac z (AG (fun c30=>?_) (fun c30=>?_)))
   ·omega
   refine AA (hR2 _ _ (Ah fun _ z=>Y Ax (Y Aa (Ac z (hR0 _ _ (A4 [0,1] [3,5,60] ⟨_,by decide,hnx (by rw [← hp];exact hinv)⟩ ?_ (Ag (h:=(Ag))) (Ae (h:=(Ae))) (.c (.c (.c .n)))))))));skip;all_goals (dsimp only;omega)
  simp only [lC] at hpl
  have hidx2:(B6 bars r)[pre.length]?= some s:=by rw [← hp];simp
  have hms:=Gn hp;obtain ⟨a,b,c⟩:=s;have hpb:=GX hms;have hall:=fun h=>hall0 h _ hms;refine Ab fun _ z=>Y As (Ac z (AG (fun c31=>?_) (fun c31=>?_)))
  ·refine Aj (Ev.block (Ab fun _ z=>Y (AQ am_el380 am_cl56 (hl:=(by exact Ba hidx2 (by omega)))) (Y (Bv _ am_ag56 am_cl56) (Aq (AT am_ze56) (Ar _ true [_,_] am_in56 am_cl56 (h:=Ac z (Ab fun _ z=>Y (A6 _ am_ag56 am_cl56) (Y (An 3 am_fi194_2 am_cl56) (Y (A6 _ am_ag56 am_cl56) (Ay (hF:=FT (a,b,c) r.at 1 (C6 hpb (by omega)) (C6 hat (by omega)) (by omega)) (h:=Aq (AT am_ze56) (Ar _ true [_,_,_] am_in56 am_cl56 (h:=Ac z (Aj (Ab fun _ z=>Y Aa (Y Be (Ac z (Az (fun c32=>?_) (fun c32=>?_)))))))))))))))))))
   ·omega
   refine Am (Ab fun _ z=>Y (A6 _ am_ag56 am_cl56) (Ay (hF:=(by exact EM (D6 (a,b,c) r.at 1) 1048576 (by omega))) (h:=Y Bw (Ac z (Bh (fun c34=>?_) (fun c34=>?_))))))
   ·refine Ab fun _ z=>Y Ad (Ac z (Ai (hR2 _ _ (hR0 _ _ (Ap ?_)))));exact bF (fun h=>by have h1:=hall h;rw [IC ‹_›] at h1;exact absurd h1 ‹_›)
   refine Am (Ah fun _ z=>Y Ax (Y Aa (Ac z (hR2 _ _ (A4 [0,1] [3,5,7,60,61,65,66] ⟨(pre ++ [(a,b,c)],suf),Bu hp,?_⟩ B9 (Ag (h:=(Ag))) (Ae (he:=(by congr 2;simp)) (h:=(Ae))) (.c (.c (.c (.c (.c (.c (.c .n))))))))))));intro x hx
   rcases List.mem_append.1 hx with hx | hx
   ·exact hinv x hx
   ·rw [List.mem_singleton] at hx;subst hx;(rw [IC ‹_›];assumption)
  omega
 omega
theorem D4 {l:List Rn} (h:∀ r ∈ l,1≤r.n):0≤AR l:=by
 induction l with
 |nil=>exact Int.le_refl _
 |cons r l ih =>
  have h1:=h r (by simp);have h2:=ih fun x hx=>h x (by simp [hx]);simp only [AR,List.map_cons,List.sum_cons] at *;omega
theorem Kq {pre suf l:List Rn} {s:Rn} (hp:pre ++ s :: suf=l) (h:∀ r ∈ l,1≤r.n):AR l=AR pre+s.n+AR suf∧0≤AR suf:=by
 have h2:=D4 (l:=suf) fun r hr=>h r (by rw [← hp];simp [hr]);refine ⟨?_,h2⟩;rw [← hp];simp only [AR,List.map_append,List.map_cons,List.sum_append,List.sum_cons];omega
theorem Ff (pre:List Rn) (s:Rn):AR (pre ++ [s])=AR pre+s.n:=by simp [AR]
theorem Hd (bars:List Bar) (runs:List Rn) (hlen:bars.length≤140737488355328) (hw:Ce bars) (hrl:runs.length≤140737488355328) (hrw:Dw runs):Fun Tryz.prog 141 [.sh 5 (bars.map Bar.c), .sh 10 (runs.map Rn.c)] (AI (bL (decide (BV bars runs))) []):=by
 refine Fun.of (nt:=37) (rs:=[.tmp 4]) Tryz.func141 rfl rfl rfl rfl rfl (Ab fun _ z=>Y Ad (Ac z (Aj (Ab fun _ z=>Y Aa (Ay (hF:=IX bars hlen hw) (h:=Y Bw (Dc Aa (fun c1=>?_) (fun c1=>?_))))))))
 ·refine Au (Bq (Y AF (Ac z (BI (Ab fun _ z=>Y Ad (Ac z (Ai (Ap ?_))))))));exact bF (fun h=>absurd h.1 ‹¬ CY bars›)
 refine Y Aa (Y (A5 am_el23) (Y Be (Y AE (Ac z (Az (fun c2=>?_) (fun c2=>?_))))))
 ·refine Ab fun _ z=>Y Ad (Ac z (Ai (Ap ?_)));exact bF (fun h=>by have h1:=h.2.1;omega)
 refine Am (Ab fun _ z=>Y Ad (Ac z (Aj (Ab fun _ z=>Y Aa (Y (A5 am_el23) (Y Aa (Ac z (Ev.block (AC (ι:={q:List Rn × List Rn // q.1 ++ q.2=runs∧((∀ r ∈ q.1,Dv bars r)∧0≤AR q.1∧AR q.1≤2000)}) [] [0,16,17] (fun ⟨(pre,suf),_⟩=>[(18,iL (pre.length:Int)),(5,iL (2000 - AR pre))]) (fun ⟨(pre,suf),_⟩=>[]) (fun ⟨(pre,suf),_⟩=>suf.length) ⟨([],runs),rfl,⟨fun x hx=>by simp at hx,Int.le_refl 0,(by show (0:Int)≤2000;omega)⟩⟩ (.c (.c (.c .n))) AN (Ae (h:=(Ae))) ?_)))))))));rintro ⟨⟨pre,suf⟩,hp,hinv⟩ R0 hR0;dsimp only [cA,nA,lC,lN]
 simp only at hp hinv
 have hpl:=BO hp
 rcases suf with _ | ⟨s,suf⟩
 ·rw [List.append_nil] at hp;simp only [lN] at hpl;obtain ⟨hinv,hi1,hi2⟩:=hinv;refine Ab fun _ z=>Y As (Ac z (AG (fun c3=>?_) (fun c3=>?_)))
  ·omega
  refine AA (hR0 _ _ (Ab fun _ z=>Y Ad (Ac z (Ai (Ap ?_)))));exact bT ⟨‹CY bars›,by omega,by rw [← hp];exact hinv,by rw [← hp];omega⟩
 simp only [lC] at hpl;have hidx:=BM hp;have hms:=Gn hp;obtain ⟨hinv,hi1,hi2⟩:=hinv;have hsn:=Ff pre s;refine Ab fun _ z=>Y As (Ac z (AG (fun c4=>?_) (fun c4=>?_)))
 ·refine Aj (Ev.block (Ab fun _ z=>Y (AQ am_el23 am_cl194 (hl:=(by exact Ba hidx (by omega)))) (Y (Bv _ am_ag194 am_cl194) (Aq (AT am_ze194) (Ar _ true [] am_in194 am_cl194 (h:=Ac z (Aj (Ab fun _ z=>Y Aa (Y (A6 _ am_ag194 am_cl194) (Ay (hF:=NL bars s hlen hw (hrw s hms)) (h:=Y Bw (Dc Aa (fun c5=>?_) (fun c5=>?_)))))))))))))
  ·refine Au (Au (Y AF (Ac z (BI (Ab fun _ z=>Y Ad (Ac z (Ai (hR0 _ _ (Ap ?_)))))))));exact bF (fun h=>absurd (h.2.2.1 s hms) ‹¬ Dv bars s›)
  refine Y (An 9 am_fi194_4 am_cl3) (Y (Ao am_ag3) (Y Aa (Y Be (Y AE (Ac z (Az (fun c6=>?_) (fun c6=>?_)))))))
  ·refine Ab fun _ z=>Y Ad (Ac z (Ai (hR0 _ _ (Ap ?_))));exact bF (fun h=>by have h1:=Kq hp (fun x hx=>(h.2.2.1 x hx).2.2.1.1);have h2:=h.2.2.2;omega)
  refine Am ?_;have hrs0:=(‹Dv bars s›).2.2.1;refine Ah fun _ z=>Y Aa (Y (An 9 am_fi194_4 am_cl3) (Y (Ao am_ag3) (Y BK (Y Ad (Ac z ?_)))));show Ev _ _ _ _;refine Ah fun _ z=>Y Ax (Y Aa (Ac z (hR0 _ _ (A4 [] [0,16,17] ⟨(pre ++ [s],suf),Bu hp,?_⟩ B9 AN (Ae (he:=(by congr 2;simp)) (h:=(Ae (he:=(by exact iE (by rw [Ff];omega)))))) (.c (.c (.c .n)))))));have hrs:=(‹Dv bars s›).2.2.1;exact ⟨fun x hx=>by rcases List.mem_append.1 hx with hx | hx;exact hinv x hx;rw [List.mem_singleton] at hx;subst hx;assumption,by dsimp only;omega,by dsimp only;omega⟩
 omega
def zeroB:Bx:=⟨0,0,0,0,0,0⟩
theorem O7 (g:FuncId)  (p:Bx→Bool) (hg:∀ s,Fun Tryz.prog g [.agg (Bx.c s)] (AI (bL (p s)) [])) (l:List (Bx)) (hlen:l.length≤140737488355328) :
 Fun Tryz.prog 202 [.sh 6 (l.map Bx.c), .fn (.func g) [] []] (AI (iL (Cn p l 0)) []):=by
 refine Fun.of (nt:=19) (rs:=[.tmp 4]) Tryz.func202 rfl rfl rfl rfl rfl (Ab fun _ k=>Y Ad (Ac k (Aj (Ab fun _ k=>Y Aa (Y (A5 am_el37) (Y Aa (Ac k (Ev.block (AC (ι:={q:List (Bx) × List (Bx) // q.1 ++ q.2=l∧∀ x ∈ q.1,p x=false}) [] [0,1,7] (fun ⟨(pre,suf),_⟩=>[(8,iL (pre.length:Int))]) (fun ⟨(pre,suf),_⟩=>[]) (fun ⟨(pre,suf),_⟩=>suf.length) ⟨([],l),rfl,fun x hx=>by simp at hx⟩ (.c (.c (.c .n))) AN (Ae) ?_)))))))));rintro ⟨⟨pre,suf⟩,hp,hinv⟩ R0 hR0;dsimp only [cA,nA,lC,lN]
 simp only at hp hinv
 have hpl:=BO hp
 rcases suf with _ | ⟨s,suf⟩
 ·rw [List.append_nil] at hp;subst hp;simp only [List.length_nil] at hpl;refine Ab fun _ k=>Y As (Ac k (AG (fun c1=>?_) (fun c1=>?_)))
  ·omega
  refine AA (hR0 _ _ (Ab fun _ k=>Y Ad (Ac k (Ai (Ap ?_)))))
  congr 2;rw [Ez p pre 0 hinv]
 simp only [lC] at hpl;have hidx:=BM hp;refine Ab fun _ k=>Y As (Ac k (AG (fun c3=>?_) (fun c3=>?_)))
 ·refine Aj (Ev.block (Ab fun _ k=>Y Aa (Y Ad (Ac k (Ab fun _ k=>Y Aa (Y Aa (Y Aa (Y (AQ am_el37 am_cl58 (hl:=(by exact Ba hidx (by omega)))) (Y (Bv _ am_ag58 am_cl58) (Ay (hF:=hg s) (h:=Ac k (En (fun c4=>?_) (fun c4=>?_)))))))))))))
  ·refine Ab fun _ k=>Y Aa (Y Ad (Ac k (Ai (hR0 _ _ (Ap ?_)))))
   congr 2;rw [← hp,CQ p pre _ 0 hinv,Cn,if_pos ‹_›];omega
  refine Am (Ah fun _ k=>Y Ax (Y Aa (Ac k (hR0 _ _ (A4 [] [0,1,7] ⟨(pre ++ [s],suf),Bu hp,?_⟩ B9 AN (Ae (he:=(by simp))) (.c (.c (.c .n))))))))
  intro x hx;simp only [List.mem_append,List.mem_singleton] at hx;rcases hx with hx | rfl
  ·exact hinv x hx
  ·assumption
 omega
theorem Ly (g:FuncId)  (p:Bx→Bool) (hg:∀ s,Fun Tryz.prog g [.agg (Bx.c s)] (AI (bL (p s)) [])) (l:List (Bx)) (hlen:l.length≤140737488355328) :
 Fun Tryz.prog 93 [.sh 6 (l.map Bx.c), .fn (.func g) [] []] (AI (bL (decide (∃ x ∈ l,p x=true))) []):=by
 have hd:(decide (∃ x ∈ l,p x=true))=decide (0≤Cn p l 0):=by simp only [Ed p l 0 (Int.le_refl _)]
 rw [hd];refine Fun.of (nt:=9) (rs:=[.tmp 4]) Tryz.func93 rfl rfl rfl rfl rfl (Ab fun _ k=>Y Ad (Ac k (Ab fun _ k=>Y Aa (Y Aa (Ay (hF:=O7 g  p hg l hlen) (h:=Y BR (Y Ad (Ac k (Ai (Ap ?_))))))))));rfl
theorem NJ (g:FuncId)  (p:Int→Bool) (hg:∀ s,Fun Tryz.prog g [(AD s).headD .top] (AI (bL (p s)) [])) (l:List (Int)) (hlen:l.length≤140737488355328) :
 Fun Tryz.prog 276 [.sh 1 (l.map AD), .fn (.func g) [] []] (AI (iL (Cn p l 0)) []):=by
 refine Fun.of (nt:=19) (rs:=[.tmp 4]) Tryz.func276 rfl rfl rfl rfl rfl (Ab fun _ k=>Y Ad (Ac k (Aj (Ab fun _ k=>Y Aa (Y (A5 am_el24) (Y Aa (Ac k (Ev.block (AC (ι:={q:List (Int) × List (Int) // q.1 ++ q.2=l∧∀ x ∈ q.1,p x=false}) [] [0,1,7] (fun ⟨(pre,suf),_⟩=>[(8,iL (pre.length:Int))]) (fun ⟨(pre,suf),_⟩=>[]) (fun ⟨(pre,suf),_⟩=>suf.length) ⟨([],l),rfl,fun x hx=>by simp at hx⟩ (.c (.c (.c .n))) AN (Ae) ?_)))))))));rintro ⟨⟨pre,suf⟩,hp,hinv⟩ R0 hR0;dsimp only [cA,nA,lC,lN]
 simp only at hp hinv
 have hpl:=BO hp
 rcases suf with _ | ⟨s,suf⟩
 ·rw [List.append_nil] at hp;subst hp;simp only [List.length_nil] at hpl;refine Ab fun _ k=>Y As (Ac k (AG (fun c1=>?_) (fun c1=>?_)))
  ·omega
  refine AA (hR0 _ _ (Ab fun _ k=>Y Ad (Ac k (Ai (Ap ?_)))))
  congr 2;rw [Ez p pre 0 hinv]
 simp only [lC] at hpl;have hidx:=BM hp;refine Ab fun _ k=>Y As (Ac k (AG (fun c3=>?_) (fun c3=>?_)))
 ·refine Aj (Ev.block (Ab fun _ k=>Y Aa (Y Ad (Ac k (Ab fun _ k=>Y Aa (Y Aa (Y Aa (Y (AQ am_el24 am_cl3 (hl:=(by exact Ba hidx (by omega)))) (Y (AO am_ag3) (Ay (hF:=hg s) (h:=Ac k (En (fun c4=>?_) (fun c4=>?_)))))))))))))
  ·refine Ab fun _ k=>Y Aa (Y Ad (Ac k (Ai (hR0 _ _ (Ap ?_)))))
   congr 2;rw [← hp,CQ p pre _ 0 hinv,Cn,if_pos ‹_›];omega
  refine Am (Ah fun _ k=>Y Ax (Y Aa (Ac k (hR0 _ _ (A4 [] [0,1,7] ⟨(pre ++ [s],suf),Bu hp,?_⟩ B9 AN (Ae (he:=(by simp))) (.c (.c (.c .n))))))))
  intro x hx;simp only [List.mem_append,List.mem_singleton] at hx;rcases hx with hx | rfl
  ·exact hinv x hx
  ·assumption
 omega
theorem HI (g:FuncId)  (p:Int→Bool) (hg:∀ s,Fun Tryz.prog g [(AD s).headD .top] (AI (bL (p s)) [])) (l:List (Int)) (hlen:l.length≤140737488355328) :
 Fun Tryz.prog 163 [.sh 1 (l.map AD), .fn (.func g) [] []] (AI (bL (decide (∃ x ∈ l,p x=true))) []):=by
 have hd:(decide (∃ x ∈ l,p x=true))=decide (0≤Cn p l 0):=by simp only [Ed p l 0 (Int.le_refl _)]
 rw [hd];refine Fun.of (nt:=9) (rs:=[.tmp 4]) Tryz.func163 rfl rfl rfl rfl rfl (Ab fun _ k=>Y Ad (Ac k (Ab fun _ k=>Y Aa (Y Aa (Ay (hF:=NJ g  p hg l hlen) (h:=Y BR (Y Ad (Ac k (Ai (Ap ?_))))))))));rfl
def F3 (l:List Bar) (d:Int):Int:=l.foldl (fun a b=>if b.size=d then a+Dy b else a) 0
theorem LI (l:List Bar) (s:Bar) (d:Int):F3 (l ++ [s]) d=if s.size=d then F3 l d+Dy s else F3 l d:=by simp [F3]
def D5 (l:List Bar):List Int:=sizes.map (F3 l)
def Lk (l:List Bar):Int:=l.foldl (fun a b=>a+Dy b) 0
theorem T6 (l:List Bar) (s:Bar):Lk (l ++ [s])=Lk l+Dy s:=by simp [Lk]
theorem KM (l:List Bar) (s:Bar) (h:s.size ∈ sizes):0≤Gj sizes s.size∧Gj sizes s.size < 9∧(D5 l)[(Gj sizes s.size).toNat]?= some (F3 l s.size) ∧
 (D5 l).set (Gj sizes s.size).toNat (F3 l s.size+Dy s)=D5 (l ++ [s])∧BF (D5 (l ++ [s]))=BF (D5 l)+Dy s:=by
 have e:∀ d,F3 (l ++ [s]) d=if s.size=d then F3 l d+Dy s else F3 l d:=LI l s;have h':=h;simp only [sizes,List.mem_cons,List.not_mem_nil,or_false] at h'
 rcases h' with h' | h' | h' | h' | h' | h' | h' | h' | h' <;> rw [h'] at e ⊢ <;> refine ⟨by decide,by decide,rfl,?_,?_⟩ <;>
  simp only [D5,sizes,List.map_cons,List.map_nil,e] <;> simp [Gj,Cn,BF] <;> omega
theorem ofSum_bd:∀ (l:List Bar),(∀ b ∈ l,BU b)→∀ d,0≤F3 l d∧F3 l d≤10343154000 * l.length:=by
 refine Ft (fun _ d=>⟨Int.le_refl _,by simp [F3]⟩) ?_;intro l s ih h d;obtain ⟨i1,i2⟩:=ih (fun b hb=>h b (by simp [hb])) d;obtain ⟨_,_,h3,h4⟩:=Hp (h s (by simp));rw [LI,List.length_append,List.length_singleton]
 split <;> omega
theorem totM_bd:∀ (l:List Bar),(∀ b ∈ l,BU b)→(0≤Lk l∧Lk l≤10343154000 * l.length)∧BF (D5 l)=Lk l:=by
 refine Ft (fun _=>by decide) ?_;intro l s ih h;obtain ⟨⟨i1,i2⟩,i3⟩:=ih (fun b hb=>h b (by simp [hb]));obtain ⟨_,_,h3,h4⟩:=Hp (h s (by simp));have:=(KM l s (h s (by simp)).2.1).2.2.2.2;rw [T6,List.length_append,List.length_singleton];refine ⟨by omega,by omega⟩
theorem Pp (l:List Bar):(D5 l).length=9:=by simp [D5,sizes]
theorem Rm (l:List Bar) (hw:Ce l) (hok:CY l):Fun Tryz.prog 146 [.sh 5 (l.map Bar.c)] (AI (.sh 1 ((D5 l).map AD)) []):=by
 have hl:=hok.1;have hs9:sizes.length=9:=rfl;refine Fun.of (nt:=36) (rs:=[.tmp 2]) Tryz.func146 rfl rfl rfl rfl rfl ?_;refine Ab fun _ k=>Y Ad (Ac k ?_);refine Ab fun _ k=>Ay (hF:=sizes_fun) (h:=Y Ad (Ac k ?_));refine Ab fun _ k=>Y Aa (Y (A5 am_el24) (Ih (f:=AD) (0) am_el24 am_ze3 am_cl3 am_by3 (h:=Y Ad (Ac k ?_))));refine Aj (Ab fun _ k=>Y Aa (Y (A5 am_el22) (Y Aa (Ac k ?_))));refine Ev.block (AC (ι:={p:List (Bar) × List (Bar) // p.1 ++ p.2=l∧True}) [0] [3,13,14] (fun ⟨(pre,suf),_⟩=>[(15,iL (pre.length:Int)),(4, .als 0 0 (D5 pre).length)]) (fun ⟨(pre,suf),_⟩=>[(0,⟨true,3,1,(D5 pre).map AD,true⟩)]) (fun ⟨(pre,suf),_⟩=>suf.length) ⟨([],l),rfl,trivial⟩ (.c (.c (.c .n))) (Ag) (Ae (h:=(Ae))) ?_);rintro ⟨⟨pre,suf⟩,hp,hinv⟩ R0 hR0;dsimp only [cA,nA,lC,lN]
 simp only at hp hinv
 have hpl:=BO hp
 rcases suf with _ | ⟨s,suf⟩
 ·rw [List.append_nil] at hp;simp only [lN] at hpl;refine Ab fun _ k=>Y As (Ac k ?_);refine AG (fun c1=>?_) (fun c1=>?_)
  ·omega
  refine AA (hR0 _ _ (Ab fun _ k=>Y Aa (Y Ad (Ac k ?_))));refine Av (Wk.frz 2 []) ?_;refine Ai (Ap ?_);rw [← hp]
 simp only [lC] at hpl;have hidx:=BM hp;have hsw:s.w:=hw s (by rw [← hp];simp);have hsok:BU s:=hok.2.1 s (by rw [← hp];simp);refine Ab fun _ k=>Y As (Ac k ?_);refine AG (fun c2=>?_) (fun c2=>?_)
 ·refine Aj (Ev.block (Ab fun _ k=>Y (AQ am_el22 am_cl168 (hl:=(by exact Ba hidx (by omega)))) (Y (Bv _ am_ag168 am_cl168) (Aq (AT am_ze168) (Ar _ true [_] am_in168 am_cl168 (h:=Ac k ?_))))));refine Ab fun _ k=>Y (A6 _ am_ag168 am_cl168) (Ay (hF:=PA _ (by assumption)) (h:=Y Aa (Y AH (Y AH (Y Ad (Y Ad (Ac k ?_)))))));obtain ⟨m1,m2,m3,m4⟩:=Hp hsok;have e1:OT s (Dy s)=Dy s:=GN hsok;obtain ⟨i1,i2,i3,i4,i5⟩:=KM pre s hsok.2.1;obtain ⟨o1,o2⟩:=ofSum_bd pre (fun b hb=>hok.2.1 b (by rw [← hp];simp [hb])) s.size;have hsl:=Pp pre;rw [e1];refine Ah fun _ k=>Y Aa (Y Aa (Y (An 1 am_fi168_1 am_cl3) (Y (Ao am_ag3) (Ay (hF:=JL _ _ (by omega)) (h:=Y (BT am_el24 am_cl3) (Y (Ee am_ag3 (hl:=(by exact at_ i3 (by omega)))) (Y Aa (Y Ax (Y (BT am_el24 am_cl3) (DH _ [_] am_in3 am_cl3 (hl:=(by exact at_ i3 (by omega))) (h:=Ac k ?_)))))))))));show Ev _ _ _ _;refine Ah fun _ k=>Y Ax (Y Aa (Ac k ?_));refine hR0 _ _ (A4 [0] [3,13,14] ⟨(pre ++ [s],suf),Bu hp,trivial⟩ B9 (Ag (he:=(by exact congrArg _ i4))) (Ae (he:=(by congr 2;simp)) (h:=(Ae))) (.c (.c (.c .n))))
 omega
def Mc (l:List Bar):Int:=if CY l then 0 else 1
def RV (l:List Bar):Int:=if CY l then Lk l else 0
theorem Sh (l:List Bar) (hlen:l.length≤140737488355328) (hw:Ce l):Fun Tryz.prog 47 [.sh 5 (l.map Bar.c)] (AI (.tup [iL (RV l),iL (Mc l)]) []):=by
 have hsl:=Pp l;refine Fun.of (nt:=22) (rs:=[.tmp 2, .tmp 3]) Tryz.func47 rfl rfl rfl rfl rfl ?_;refine Ab fun _ k=>Y Ad (Y Ad (Ac k ?_));refine Aj (Ab fun _ k=>Y Aa (Ay (hF:=IX _ (by omega) (by assumption)) (h:=Y Bw (Ac k ?_))));refine Bh (fun c1=>?_) (fun c1=>?_)
 ·refine Ab fun _ k=>Y Ad (Y Ad (Ac k ?_));refine Ai (Cd ?_);rw [RV,Mc,if_neg ‹_›,if_neg ‹_›]
 refine Am ?_;have hok:CY l:= ‹_›;have htot:=(totM_bd l hok.2.1).2;have hl60:=hok.1
 have hob:∀ n ∈ D5 l,0≤n∧n≤620589240000:=fun n hn=>by
  rw [D5,List.mem_map] at hn;obtain ⟨d,_,rfl⟩:=hn;have:=ofSum_bd l hok.2.1 d;omega
 refine Ab fun _ k=>Y Ad (Ac k ?_);refine Aj (Ab fun _ k=>Y Aa (Ay (hF:=Rm _ (by assumption) (by assumption)) (h:=Y (A5 am_el24) (Y Aa (Ac k ?_)))));refine Ev.block (AC (ι:={q:List Int × List Int // q.1 ++ q.2=D5 l∧0≤BF q.1∧BF q.1≤620589240000 * q.1.length}) [] [11,12] (fun ⟨(pre,suf),_⟩=>[(13,iL (pre.length:Int)),(4,iL (BF pre))]) (fun ⟨(pre,suf),_⟩=>[]) (fun ⟨(pre,suf),_⟩=>suf.length) ⟨([],(D5 l)),rfl,(by decide:0≤BF []∧BF []≤620589240000 * (([]:List Int).length:Int))⟩ (.c (.c .n)) AN (Ae (h:=(Ae))) ?_);rintro ⟨⟨pre,suf⟩,hp,hinv⟩ R0 hR0;dsimp only [cA,nA,lC,lN]
 simp only at hp hinv
 have hpl:=BO hp
 rcases suf with _ | ⟨s,suf⟩
 ·rw [List.append_nil] at hp;simp only [lN] at hpl;refine Ab fun _ k=>Y As (Ac k ?_);refine AG (fun c2=>?_) (fun c2=>?_)
  ·omega
  refine AA (hR0 _ _ (Ab fun _ k=>Y Aa (Y Ad (Y Ad (Ac k ?_)))));refine Ai (Cd ?_);rw [RV,Mc,if_pos ‹_›,if_pos ‹_›, ← htot, ← hp]
 simp only [lC] at hpl;have hidx:=BM hp;have hsb:=hob s (by rw [← hp];simp);obtain ⟨v1,v2⟩:=hinv;refine Ab fun _ k=>Y As (Ac k ?_);refine AG (fun c3=>?_) (fun c3=>?_)
 ·refine Aj (Ev.block (Ab fun _ k=>Y (AQ am_el24 am_cl3 (hl:=(by exact Ba hidx (by omega)))) (Y (AO am_ag3) (Y Ad (Ac k ?_)))));refine Ah fun _ k=>Y Aa (Y Aa (Y Ax (Y Ad (Ac k ?_))));show Ev _ _ _ _;refine Ah fun _ k=>Y Ax (Y Aa (Ac k ?_));refine hR0 _ _ (A4 [] [11,12] ⟨(pre ++ [s],suf),Bu hp,?_⟩ B9 AN (Ae (he:=(by congr 2;simp)) (h:=(Ae (he:=(by congr 2;rw [Fu,show BF [s]=s by simp [BF]]))))) (.c (.c .n)))
  (rw [Fu,show BF [s]=s by simp [BF],List.length_append,List.length_singleton];omega)
 omega
def EK (b:Bar):Prop:=b.dims.length≤8∧b.mark.length≤60
instance (b):Decidable (EK b):=by unfold EK;infer_instance
theorem I1 (b:Bar):Fun Tryz.prog 154 [.agg b.c] (AI (bL (decide (EK b))) []):=by
 refine Fun.of (nt:=13) (rs:=[.tmp 2]) Tryz.func154 rfl rfl rfl rfl rfl (Ab fun _ k=>Aq (Bo _ true) (Y Ad (Ac k (Ab fun _ k=>Y (An 4 am_fi168_4 am_cl24) (Y (Ao am_ag24) (Y (A5 am_el24) (Y Cb (AS Aa (fun c1=>?_) (fun c1=>?_)))))))))
 ·refine Y (An 0 am_fi168_0 am_cl9) (Y (Ao am_ag9) (Y (CB am_el9 am_un9) (Y Cb (Y AF (Y Ad (Ac k (Ai (Ap ?_))))))));exact dI ⟨fun h=>⟨by omega,by omega⟩,fun h=>by have h1:=h.2;omega⟩
 refine Au (Au (Y AE (Y Ad (Ac k (Ai (Ap ?_))))));exact bF (fun h=>by have h1:=h.1;omega)
def Lt (a b:Bx):Bx:=⟨min a.lx b.lx,min a.ly b.ly,min a.lz b.lz,max a.hx b.hx,max a.hy b.hy,max a.hz b.hz⟩
def Gi (b0:Bx) (l:List Bx):Bx:=l.foldl Lt b0
theorem Rc (b0:Bx) (l:List Bx) (s:Bx):Gi b0 (l ++ [s])=Lt (Gi b0 l) s:=by simp [Gi]
def L6 (l:List Bx):Bx:=Gi ((l[0]?).getD zeroB) l
theorem QL (b:Bx):Fun Tryz.prog 415 [.agg b.c] (AI (bL (decide (¬ Cg b))) []):=by
 refine Fun.of (nt:=6) (rs:=[.tmp 2]) Tryz.func415 rfl rfl rfl rfl rfl (Ab fun _ k=>Aq (Bo _ true) (Y Ad (Ac k (Ab fun _ k=>Y (A6 _ am_ag58 am_cl58) (Ay (hF:=Fe b) (h:=Y Bw (Y Ad (Ac k (Ai (Ap ?_))))))))));exact dN Iff.rfl
theorem Yd {l:List Bx}:(¬ ∃ x ∈ l,decide (¬ Cg x)=true)↔∀ b ∈ l,Cg b:=by
 constructor
 ·intro h b hb
  by_cases ht:Cg b
  ·exact ht
  exact absurd ⟨b,hb,decide_eq_true ht⟩ h
 rintro h ⟨b,hb,hd⟩;exact of_decide_eq_true hd (h b hb)
theorem QK (l:List Bx) (hlen:l.length≤140737488355328):Fun Tryz.prog 339 [.sh 6 (l.map Bx.c)] (AI (bL (decide (∀ b ∈ l,Cg b))) []):=by
 refine Fun.of (nt:=6) (rs:=[.tmp 2]) Tryz.func339 rfl rfl rfl rfl rfl (Ab fun _ k=>Y Ad (Ac k (Ab fun _ k=>Y Aa (Ay (hF:=Ly _ _ QL l (by omega)) (h:=Y Bw (Y Ad (Ac k (Ai (Ap ?_)))))))));exact dN Yd
theorem Ui (l:List Bx) (hlen:l.length≤1000) (hne:1≤l.length) (hok:∀ b ∈ l,Cg b):Fun Tryz.prog 233 [.sh 6 (l.map Bx.c)] (AI (.tup [.agg (L6 l).c,iL 0]) []):=by
 obtain ⟨b0,hb0⟩:∃ b,l[0]?= some b:=⟨_,List.getElem?_eq_getElem (by omega)⟩
 have he:L6 l=Gi b0 l:=by rw [L6,hb0];rfl
 rw [he];refine Fun.of (nt:=74) (rs:=[.cell 2 58, .tmp 3]) Tryz.func233 rfl rfl rfl rfl rfl (Ab fun _ k=>Aq (AT am_ze58) (Y Ad (Ac k (Aj (Ev.block (Ab fun _ k=>Y Aa (Ay (hF:=QK l (by omega)) (h:=Y Bw (Y Ad (Ac k (Bh (fun c1=>?_) (fun c1=>?_))))))))))))
 ·contradiction
 refine Ab fun _ k=>Y Aa (Y (A5 am_el37) (Y Bk (Y Ad (Ac k (Az (fun c2=>?_) (fun c2=>?_))))))
 ·omega
 refine Am (Ab fun _ k=>Y Aa (Y (AQ am_el37 am_cl58 (hl:=(by exact Ba hb0 (by omega)))) (Y (Bv _ am_ag58 am_cl58) (Aq (AT am_ze58) (Ar _ true [_] am_in58 am_cl58 (h:=Ac k (Aj (Ab fun _ k=>Y Aa (Y (A5 am_el37) (Y Aa (Ac k (Ev.block (AC (ι:={p:List (Bx) × List (Bx) // p.1 ++ p.2=l∧True}) [0,1] [2,4,20,21] (fun ⟨(pre,suf),_⟩=>[(22,iL (pre.length:Int))]) (fun ⟨(pre,suf),_⟩=>[(0,⟨false,58,6,[[iL (0),iL (0),iL (0),iL (0),iL (0),iL (0)]],true⟩),(1,⟨false,58,6,[[iL ((Gi b0 pre).lx),iL ((Gi b0 pre).ly),iL ((Gi b0 pre).lz),iL ((Gi b0 pre).hx),iL ((Gi b0 pre).hy),iL ((Gi b0 pre).hz)]],true⟩)]) (fun ⟨(pre,suf),_⟩=>suf.length) ⟨([],l),rfl,trivial⟩ (.c (.c (.c (.c .n)))) (Ag (h:=(Ag))) (Ae) ?_)))))))))))));rintro ⟨⟨pre,suf⟩,hp,hinv⟩ R1 hR1;dsimp only [cA,nA,lC,lN]
 simp only at hp hinv
 have hpl:=BO hp
 rcases suf with _ | ⟨s,suf⟩
 ·rw [List.append_nil] at hp;simp only [lN] at hpl;refine Ab fun _ k=>Y As (Ac k (AG (fun c3=>?_) (fun c3=>?_)))
  ·omega
  refine AA (hR1 _ _ (Ab fun _ k=>Y (A6 _ am_ag58 am_cl58) (Ar _ true [_] am_in58 am_cl58 (h:=Y Ad (Ac k (Ai (D1 (Bp [_,_,_,_,_,_] am_ag58 am_cl58 (Db res_n)) (⟨?_,rfl⟩))))))));rw [← hp];rfl
 simp only [lC] at hpl;have hidx:=BM hp;refine Ab fun _ k=>Y As (Ac k (AG (fun c4=>?_) (fun c4=>?_)))
 ·refine Aj (Ev.block (Ab fun _ k=>Y (AQ am_el37 am_cl58 (hl:=(by exact Ba hidx (by omega)))) (Y (Bv _ am_ag58 am_cl58) (Aq (AT am_ze58) (Ar _ true [_,_] am_in58 am_cl58 (h:=Ac k (Ab fun _ k=>Y (An 0 am_fi58_0 am_cl56) (Y (An 0 am_fi56_0 am_cl3) (Y (Ao am_ag3) (Y (An 0 am_fi58_0 am_cl56) (Y (An 0 am_fi56_0 am_cl3) (Y (Ao am_ag3) (Y LS (Y (An 0 am_fi58_0 am_cl56) (Y (An 1 am_fi56_1 am_cl3) (Y (Ao am_ag3) (Y (An 0 am_fi58_0 am_cl56) (Y (An 1 am_fi56_1 am_cl3) (Y (Ao am_ag3) (Y LS (Y (An 0 am_fi58_0 am_cl56) (Y (An 2 am_fi56_2 am_cl3) (Y (Ao am_ag3) (Y (An 0 am_fi58_0 am_cl56) (Y (An 2 am_fi56_2 am_cl3) (Y (Ao am_ag3) (Y LS (Y (Bg _ am_ze56 am_pl56) (Y (An 0 am_fi58_0 am_cl56) (Ar _ true [_,_] am_in56 am_cl56 (h:=Ac k (Ah fun _ k=>Y (An 3 am_fi58_1 am_cl56) (Y (An 3 am_fi56_0 am_cl3) (Y (Ao am_ag3) (Y (An 3 am_fi58_1 am_cl56) (Y (An 3 am_fi56_0 am_cl3) (Y (Ao am_ag3) (Y DE (Y (An 3 am_fi58_1 am_cl56) (Y (An 4 am_fi56_1 am_cl3) (Y (Ao am_ag3) (Y (An 3 am_fi58_1 am_cl56) (Y (An 4 am_fi56_1 am_cl3) (Y (Ao am_ag3) (Y DE (Y (An 3 am_fi58_1 am_cl56) (Y (An 5 am_fi56_2 am_cl3) (Y (Ao am_ag3) (Y (An 3 am_fi58_1 am_cl56) (Y (An 5 am_fi56_2 am_cl3) (Y (Ao am_ag3) (Y DE (Y (Bg _ am_ze56 am_pl56) (Y (An 3 am_fi58_1 am_cl56) (Ar _ true [_,_] am_in56 am_cl56 (h:=Ac k ?_))))))))))))))))))))))))))))))))))))))))))))))))))))))))
  show Ev _ _ _ _;refine Ah fun _ k=>Y Ax (Y Aa (Ac k (hR1 _ _ (A4 [0,1] [2,4,20,21] ⟨(pre ++ [s],suf),Bu hp,trivial⟩ B9 (Ag (h:=(Ag (he:=(by rw [Rc];rfl))))) (Ae (he:=(by congr 2;simp))) (.c (.c (.c (.c .n))))))));skip
 omega
def Gv (a b:Bx) (k:Nat):Int:=max (FW b k - Hn a k) (FW a k - Hn b k)
def I2 (a b:Bx):Nat→Int
 |0=>0
 |k+1=>I2 a b k+max 0 (Gv a b k) * max 0 (Gv a b k)
def Ex (a b:Bx):Int:=I2 a b 3
theorem Lr {a b:Bx} (ha:Cg a) (hb:Cg b) {k:Nat} (hk:k < 3):(-1048576≤FW a k∧FW a k≤Hn a k∧Hn a k≤1048576)∧(-1048576≤FW b k∧FW b k≤Hn b k∧Hn b k≤1048576):=by
 have h1:=(M3 a).1 ha k hk;have h2:=(M3 b).1 hb k hk
 unfold Lf at h1 h2
 omega
theorem Vi {a b:Bx} (ha:Cg a) (hb:Cg b) {k:Nat} (hk:k < 3): -2097152≤Gv a b k∧Gv a b k≤2097152:=by
 have h1:=Lr ha hb hk
 unfold Gv
 omega
theorem Pm {a b:Bx} (ha:Cg a) (hb:Cg b):∀ k,k≤3→0≤I2 a b k∧I2 a b k≤4398046511104 * k
 |0,_=>by simp [I2]
 |k+1,hk=>by
  have h1:=Pm ha hb k (by omega);have h2:=Vi ha hb (k:=k) (by omega);have h3:=CR (a:=max 0 (Gv a b k)) (b:=max 0 (Gv a b k)) (A:=2097152) (B:=2097152) (by omega) (by omega);have h4:=Int.mul_nonneg (a:=max 0 (Gv a b k)) (b:=max 0 (Gv a b k)) (by omega) (by omega);simp only [I2];omega
theorem Mg {a b:Bx} (ha:Cg a) (hb:Cg b):0≤Ex a b∧Ex a b≤13194139533312:=by
 have:=Pm ha hb 3 (by decide)
 unfold Ex
 omega
def EJ (a b:Bx) (k:Nat):Int × Int:=if Hn a k < FW b k then (Hn a k,FW b k) else if Hn b k < FW a k then (FW a k,Hn b k) else (max (FW a k) (FW b k),max (FW a k) (FW b k))
def EU (a b:Bx) (n k:Nat):Int × Int:=if k < n then EJ a b k else (0,0)
def U6 (a b:Bx):P3:=((EJ a b 0).1,(EJ a b 1).1,(EJ a b 2).1)
def Rr (a b:Bx):P3:=((EJ a b 0).2,(EJ a b 1).2,(EJ a b 2).2)
theorem Sj (a b:Bx) (k:Nat) (hk:k < 3) (ha:Cg a) (hb:Cg b):Fun Tryz.prog 333 [.agg a.c, .agg b.c,iL (k:Int)] (AI (iL (Gv a b k)) []):=by
 obtain ⟨h1,h2⟩:=Lr ha hb hk;refine Fun.of (nt:=30) (rs:=[.tmp 6]) Tryz.func333 rfl rfl rfl rfl rfl (Ab fun _ z=>Aq (Bo _ true) (Aq (Bo _ true) (Y Ad (Ac z (Ab fun _ z=>Y (A6 _ am_ag58 am_cl58) (Y Aa (Ay (hF:=EB a k hk) (h:=Y Aa (Y AH (Y AH (Y Ad (Y Ad (Ac z (Ab fun _ z=>Y (A6 _ am_ag58 am_cl58) (Y Aa (Ay (hF:=EB b k hk) (h:=Y Aa (Y AH (Y AH (Y Ad (Y Ad (Ac z (Ab fun _ z=>Y Aa (Y Aa (Y BK (Y Aa (Y Aa (Y BK (Y DE (Y Ad (Ac z (Ai (Ap ?_)))))))))))))))))))))))))))))))));rfl
theorem MQ (a b:Bx) (ha:Cg a) (hb:Cg b):Fun Tryz.prog 227 [.agg a.c, .agg b.c] (AI (.tup [iL (Ex a b),iL 0]) []):=by
 refine Fun.of (nt:=32) (rs:=[.tmp 4, .tmp 5]) Tryz.func227 rfl rfl rfl rfl rfl (Ab fun _ z=>Aq (Bo _ true) (Aq (Bo _ true) (Y Ad (Y Ad (Ac z (Aj (Ab fun _ z=>Y (A6 _ am_ag58 am_cl58) (Ay (hF:=Fe a) (h:=Y Bw (Dc Aa (fun c1=>?_) (fun c1=>?_)))))))))))
 ·contradiction
 refine Y (A6 _ am_ag58 am_cl58) (Ay (hF:=Fe b) (h:=Y Bw (Y AE (Ac z (Bh (fun c2=>?_) (fun c2=>?_))))))
 ·contradiction
 refine Am (Ab fun _ z=>Y Ad (Ac z (Aj (Ab fun _ z=>Y Aa (Ac z (Ev.block (AC (ι:={k:Nat // k≤3}) [0,1] [2,3] (fun ⟨k,_⟩=>[(17,iL (k:Int)),(6,iL (I2 a b k))]) (fun ⟨k,_⟩=>[(0,⟨false,58,6,[[iL (a.lx),iL (a.ly),iL (a.lz),iL (a.hx),iL (a.hy),iL (a.hz)]],true⟩),(1,⟨false,58,6,[[iL (b.lx),iL (b.ly),iL (b.lz),iL (b.hx),iL (b.hy),iL (b.hz)]],true⟩)]) (fun ⟨k,_⟩=>3 - k) ⟨0,by decide⟩ (.c (.c .n)) (Ag (h:=(Ag))) (Ae (h:=(Ae))) ?_)))))));rintro ⟨k,hk⟩ R0 hR0;dsimp only [cA,nA,lC,lN];have hsb:=Pm ha hb k hk
 by_cases hk3:k < 3
 rotate_left
 ·obtain rfl:k=3:=by omega
  refine Ab fun _ z=>Y As (Ac z (AG (fun c3=>?_) (fun c3=>?_)))
  ·omega
  refine AA (hR0 _ _ (Ab fun _ z=>Y Aa (Y Ad (Y Ad (Ac z (Ai (Cd ?_)))))));rfl
 have hal:=Vi ha hb hk3;have hmm:=CR (a:=max 0 (Gv a b k)) (b:=max 0 (Gv a b k)) (A:=2097152) (B:=2097152) (by omega) (by omega);refine Ab fun _ z=>Y As (Ac z (AG (fun c4=>?_) (fun c4=>?_)))
 ·refine Aj (Ev.block (Ab fun _ z=>Y Aa (Y Ad (Ac z (Ab fun _ z=>Y (A6 _ am_ag58 am_cl58) (Y (A6 _ am_ag58 am_cl58) (Y Aa (Ay (hF:=Sj a b k hk3 ha hb) (h:=Y DE (Y Ad (Ac z (Ah fun _ z=>Y Aa (Y Aa (Y Aa (Y BC (Y Ax (Y Ad (Ac z ?_))))))))))))))))));show Ev _ _ _ _;refine Ah fun _ z=>Y Ax (Y Aa (Ac z (hR0 _ _ (A4 [0,1] [2,3] ⟨k+1,by omega⟩ ?_ (Ag (h:=(Ag))) (Ae (h:=(Ae))) (.c (.c .n))))));skip;all_goals (dsimp only;omega)
 omega
theorem JC (a b c:Int):Fun Tryz.prog 369 [.agg [iL a,iL b,iL c]] (AI (.agg [iL a,iL b,iL c]) []):=by
 refine Fun.of (nt:=10) (rs:=[.cell 2 56]) Tryz.func369 rfl rfl rfl rfl rfl (Ab fun _ z=>Aq (Bo _ true) (Aq (AT am_ze56) (Ac z (Ab fun _ z=>Y (Bs am_el460 am_ar460 am_cl3) (Y (Ao am_ag3) (Y (Bs am_el460 am_ar460 am_cl3) (Y (Ao am_ag3) (Y (Bs am_el460 am_ar460 am_cl3) (Y (Ao am_ag3) (Y (Bg _ am_ze56 am_pl56) (Ar _ true [_] am_in56 am_cl56 (h:=Ac z (Ai (B1 (Bp [_,_,_] am_ag56 am_cl56 res_n) (⟨?_,rfl⟩)))))))))))))));rfl
theorem JB (a b:Bx) (ha:Cg a) (hb:Cg b):Fun Tryz.prog 262 [.agg a.c, .agg b.c] (AI (.tup [.agg (pntC (U6 a b)), .agg (pntC (Rr a b)),iL 0]) []):=by
 refine Fun.of (nt:=74) (rs:=[.cell 4 56, .cell 5 56, .tmp 6]) Tryz.func262 rfl rfl rfl rfl rfl (Ab fun _ z=>Aq (Bo _ true) (Aq (Bo _ true) (Aq (AT am_ze56) (Aq (AT am_ze56) (Y Ad (Ac z (Aj (Ab fun _ z=>Y (A6 _ am_ag58 am_cl58) (Ay (hF:=Fe a) (h:=Y Bw (Dc Aa (fun c1=>?_) (fun c1=>?_))))))))))))
 ·contradiction
 refine Y (A6 _ am_ag58 am_cl58) (Ay (hF:=Fe b) (h:=Y Bw (Y AE (Ac z (Bh (fun c2=>?_) (fun c2=>?_))))))
 ·contradiction
 refine Am (Ab fun _ z=>Aq (AT am_ze460) (Aq (AT am_ze460) (Ac z (Aj (Ab fun _ z=>Y Aa (Ac z (Ev.block (AC (ι:={k:Nat // k≤3}) [0,1,2,3,4,5] [2,3,4,5,7,8] (fun ⟨k,_⟩=>[(24,iL (k:Int))]) (fun ⟨k,_⟩=>[(0,⟨false,58,6,[[iL (a.lx),iL (a.ly),iL (a.lz),iL (a.hx),iL (a.hy),iL (a.hz)]],true⟩),(1,⟨false,58,6,[[iL (b.lx),iL (b.ly),iL (b.lz),iL (b.hx),iL (b.hy),iL (b.hz)]],true⟩),(2,⟨false,56,3,[[iL (0),iL (0),iL (0)]],true⟩),(3,⟨false,56,3,[[iL (0),iL (0),iL (0)]],true⟩),(4,⟨false,460,3,[[iL ((EU a b k 0).1),iL ((EU a b k 1).1),iL ((EU a b k 2).1)]],true⟩),(5,⟨false,460,3,[[iL ((EU a b k 0).2),iL ((EU a b k 1).2),iL ((EU a b k 2).2)]],true⟩)]) (fun ⟨k,_⟩=>3 - k) ⟨0,by decide⟩ (.c (.c (.c (.c (.c (.c .n)))))) (Ag (h:=(Ag (h:=(Ag (h:=(Ag (h:=(Ag (h:=(Ag))))))))))) (Ae) ?_))))))));rintro ⟨k,hk⟩ R0 hR0;dsimp only [cA,nA,lC,lN]
 have hk4:k=3∨k=0∨k=1∨k=2:=by omega
 rcases hk4 with hk4 | hk4 | hk4 | hk4
 ·subst hk4;refine Ab fun _ z=>Y As (Ac z (AG (fun c3=>?_) (fun c3=>?_)))
  ·omega
  refine AA (hR0 _ _ (BW (tbs [(0,0),(1,1),(0,0),(3,7),(4,15),(5,31),(6,63)]) 4 fun _ z=>Ak (A6 _ am_ag460 am_cl460) (Cc (hF:=JC _ _ _) (h:=Ak (A6 _ am_ag460 am_cl460) (Cc (hF:=JC _ _ _) (h:=B3 [_,_,_,_,_,_] (h:=Ar _ true [_,_,_,_,_] am_in56 am_cl56 (h:=Ar _ true [_,_,_,_,_] am_in56 am_cl56 (h:=Y Ad (Ac z (Ai (Df (Bp [_,_,_] am_ag56 am_cl56 (Bp [_,_,_] am_ag56 am_cl56 (Db res_n))) (⟨?_,rfl⟩)))))))))))));rfl
 ·subst hk4
  have hk3:0 < 3:=by decide
  obtain ⟨h1,h2⟩:=Lr ha hb (k:=0) (by decide);refine Ab fun _ z=>Y As (Ac z (AG (fun c4=>?_) (fun c4=>?_)))
  ·refine Aj (Ev.block (Ab fun _ z=>Y Aa (Y Ad (Ac z (Ab fun _ z=>Y (A6 _ am_ag58 am_cl58) (Y Aa (Ay (hF:=EB a _ hk3) (h:=Y Aa (Y AH (Y AH (Y Ad (Y Ad (Ac z (Ab fun _ z=>Y (A6 _ am_ag58 am_cl58) (Y Aa (Ay (hF:=EB b _ hk3) (h:=Y Aa (Y AH (Y AH (Y Ad (Y Ad (Ac z (Ev.block (Ab fun _ z=>Y Aa (Y Aa (Y As (Y Ad (Ac z (Az (fun c5=>?_) (fun c5=>?_))))))))))))))))))))))))))))))
   ·refine Ah fun _ z=>Y Aa (Y Aa (Y Aa (Y Aa (Y (Bs am_el460 am_ar460 am_cl3) (Ar _ true [_,_,_,_,_] am_in3 am_cl3 (h:=Y (Bs am_el460 am_ar460 am_cl3) (Ar _ true [_,_,_,_,_] am_in3 am_cl3 (h:=Ac z ?_))))))));show Ev _ _ _ _;refine Ah fun _ z=>Y Ax (Y Aa (Ac z (hR0 _ _ (A4 [0,1,2,3,4,5] [2,3,4,5,7,8] ⟨1,by decide⟩ ?_ (Ag (h:=(Ag (h:=(Ag (h:=(Ag (h:=(Ag (he:=(by simp only [EU,EJ,if_pos,if_neg, *];rfl)) (h:=(Ag (he:=(by simp only [EU,EJ,if_pos,if_neg, *];rfl))))))))))))) (Ae) (.c (.c (.c (.c (.c (.c .n))))))))));skip;all_goals (dsimp only;omega)
   refine Ab fun _ z=>Y Aa (Y Aa (Y As (Y Ad (Ac z (Az (fun c6=>?_) (fun c6=>?_))))))
   ·refine Ah fun _ z=>Y Aa (Y Aa (Y Aa (Y Aa (Y (Bs am_el460 am_ar460 am_cl3) (Ar _ true [_,_,_,_,_] am_in3 am_cl3 (h:=Y (Bs am_el460 am_ar460 am_cl3) (Ar _ true [_,_,_,_,_] am_in3 am_cl3 (h:=Ac z ?_))))))));show Ev _ _ _ _;refine Ah fun _ z=>Y Ax (Y Aa (Ac z (hR0 _ _ (A4 [0,1,2,3,4,5] [2,3,4,5,7,8] ⟨1,by decide⟩ ?_ (Ag (h:=(Ag (h:=(Ag (h:=(Ag (h:=(Ag (he:=(by simp only [EU,EJ,if_pos,if_neg, *];rfl)) (h:=(Ag (he:=(by simp only [EU,EJ,if_pos,if_neg, *];rfl))))))))))))) (Ae) (.c (.c (.c (.c (.c (.c .n))))))))));skip;all_goals (dsimp only;omega)
   refine Ah fun _ z=>Y Aa (Y Aa (Y Aa (Y Aa (Y DE (Y Aa (Y Aa (Y DE (Y (Bs am_el460 am_ar460 am_cl3) (Ar _ true [_,_,_,_,_] am_in3 am_cl3 (h:=Y (Bs am_el460 am_ar460 am_cl3) (Ar _ true [_,_,_,_,_] am_in3 am_cl3 (h:=Ac z ?_))))))))))));show Ev _ _ _ _;refine Ah fun _ z=>Y Ax (Y Aa (Ac z (hR0 _ _ (A4 [0,1,2,3,4,5] [2,3,4,5,7,8] ⟨1,by decide⟩ ?_ (Ag (h:=(Ag (h:=(Ag (h:=(Ag (h:=(Ag (he:=(by simp only [EU,EJ,if_pos,if_neg, *];rfl)) (h:=(Ag (he:=(by simp only [EU,EJ,if_pos,if_neg, *];rfl))))))))))))) (Ae) (.c (.c (.c (.c (.c (.c .n))))))))));skip;all_goals (dsimp only;omega)
  omega
 ·subst hk4
  have hk3:1 < 3:=by decide
  obtain ⟨h1,h2⟩:=Lr ha hb (k:=1) (by decide);refine Ab fun _ z=>Y As (Ac z (AG (fun c7=>?_) (fun c7=>?_)))
  ·refine Aj (Ev.block (Ab fun _ z=>Y Aa (Y Ad (Ac z (Ab fun _ z=>Y (A6 _ am_ag58 am_cl58) (Y Aa (Ay (hF:=EB a _ hk3) (h:=Y Aa (Y AH (Y AH (Y Ad (Y Ad (Ac z (Ab fun _ z=>Y (A6 _ am_ag58 am_cl58) (Y Aa (Ay (hF:=EB b _ hk3) (h:=Y Aa (Y AH (Y AH (Y Ad (Y Ad (Ac z (Ev.block (Ab fun _ z=>Y Aa (Y Aa (Y As (Y Ad (Ac z (Az (fun c8=>?_) (fun c8=>?_))))))))))))))))))))))))))))))
   ·refine Ah fun _ z=>Y Aa (Y Aa (Y Aa (Y Aa (Y (Bs am_el460 am_ar460 am_cl3) (Ar _ true [_,_,_,_,_] am_in3 am_cl3 (h:=Y (Bs am_el460 am_ar460 am_cl3) (Ar _ true [_,_,_,_,_] am_in3 am_cl3 (h:=Ac z ?_))))))));show Ev _ _ _ _;refine Ah fun _ z=>Y Ax (Y Aa (Ac z (hR0 _ _ (A4 [0,1,2,3,4,5] [2,3,4,5,7,8] ⟨2,by decide⟩ ?_ (Ag (h:=(Ag (h:=(Ag (h:=(Ag (h:=(Ag (he:=(by simp only [EU,EJ,if_pos,if_neg, *];rfl)) (h:=(Ag (he:=(by simp only [EU,EJ,if_pos,if_neg, *];rfl))))))))))))) (Ae) (.c (.c (.c (.c (.c (.c .n))))))))));skip;all_goals (dsimp only;omega)
   refine Ab fun _ z=>Y Aa (Y Aa (Y As (Y Ad (Ac z (Az (fun c9=>?_) (fun c9=>?_))))))
   ·refine Ah fun _ z=>Y Aa (Y Aa (Y Aa (Y Aa (Y (Bs am_el460 am_ar460 am_cl3) (Ar _ true [_,_,_,_,_] am_in3 am_cl3 (h:=Y (Bs am_el460 am_ar460 am_cl3) (Ar _ true [_,_,_,_,_] am_in3 am_cl3 (h:=Ac z ?_))))))));show Ev _ _ _ _;refine Ah fun _ z=>Y Ax (Y Aa (Ac z (hR0 _ _ (A4 [0,1,2,3,4,5] [2,3,4,5,7,8] ⟨2,by decide⟩ ?_ (Ag (h:=(Ag (h:=(Ag (h:=(Ag (h:=(Ag (he:=(by simp only [EU,EJ,if_pos,if_neg, *];rfl)) (h:=(Ag (he:=(by simp only [EU,EJ,if_pos,if_neg, *];rfl))))))))))))) (Ae) (.c (.c (.c (.c (.c (.c .n))))))))));skip;all_goals (dsimp only;omega)
   refine Ah fun _ z=>Y Aa (Y Aa (Y Aa (Y Aa (Y DE (Y Aa (Y Aa (Y DE (Y (Bs am_el460 am_ar460 am_cl3) (Ar _ true [_,_,_,_,_] am_in3 am_cl3 (h:=Y (Bs am_el460 am_ar460 am_cl3) (Ar _ true [_,_,_,_,_] am_in3 am_cl3 (h:=Ac z ?_))))))))))));show Ev _ _ _ _;refine Ah fun _ z=>Y Ax (Y Aa (Ac z (hR0 _ _ (A4 [0,1,2,3,4,5] [2,3,4,5,7,8] ⟨2,by decide⟩ ?_ (Ag (h:=(Ag (h:=(Ag (h:=(Ag (h:=(Ag (he:=(by simp only [EU,EJ,if_pos,if_neg, *];rfl)) (h:=(Ag (he:=(by simp only [EU,EJ,if_pos,if_neg, *];rfl))))))))))))) (Ae) (.c (.c (.c (.c (.c (.c .n))))))))));skip;all_goals (dsimp only;omega)
  omega
 subst hk4
 have hk3:2 < 3:=by decide
 obtain ⟨h1,h2⟩:=Lr ha hb (k:=2) (by decide);refine Ab fun _ z=>Y As (Ac z (AG (fun c10=>?_) (fun c10=>?_)))
 ·refine Aj (Ev.block (Ab fun _ z=>Y Aa (Y Ad (Ac z (Ab fun _ z=>Y (A6 _ am_ag58 am_cl58) (Y Aa (Ay (hF:=EB a _ hk3) (h:=Y Aa (Y AH (Y AH (Y Ad (Y Ad (Ac z (Ab fun _ z=>Y (A6 _ am_ag58 am_cl58) (Y Aa (Ay (hF:=EB b _ hk3) (h:=Y Aa (Y AH (Y AH (Y Ad (Y Ad (Ac z (Ev.block (Ab fun _ z=>Y Aa (Y Aa (Y As (Y Ad (Ac z (Az (fun c11=>?_) (fun c11=>?_))))))))))))))))))))))))))))))
  ·refine Ah fun _ z=>Y Aa (Y Aa (Y Aa (Y Aa (Y (Bs am_el460 am_ar460 am_cl3) (Ar _ true [_,_,_,_,_] am_in3 am_cl3 (h:=Y (Bs am_el460 am_ar460 am_cl3) (Ar _ true [_,_,_,_,_] am_in3 am_cl3 (h:=Ac z ?_))))))));show Ev _ _ _ _;refine Ah fun _ z=>Y Ax (Y Aa (Ac z (hR0 _ _ (A4 [0,1,2,3,4,5] [2,3,4,5,7,8] ⟨3,by decide⟩ ?_ (Ag (h:=(Ag (h:=(Ag (h:=(Ag (h:=(Ag (he:=(by simp only [EU,EJ,if_pos,if_neg, *];rfl)) (h:=(Ag (he:=(by simp only [EU,EJ,if_pos,if_neg, *];rfl))))))))))))) (Ae) (.c (.c (.c (.c (.c (.c .n))))))))));skip;all_goals (dsimp only;omega)
  refine Ab fun _ z=>Y Aa (Y Aa (Y As (Y Ad (Ac z (Az (fun c12=>?_) (fun c12=>?_))))))
  ·refine Ah fun _ z=>Y Aa (Y Aa (Y Aa (Y Aa (Y (Bs am_el460 am_ar460 am_cl3) (Ar _ true [_,_,_,_,_] am_in3 am_cl3 (h:=Y (Bs am_el460 am_ar460 am_cl3) (Ar _ true [_,_,_,_,_] am_in3 am_cl3 (h:=Ac z ?_))))))));show Ev _ _ _ _;refine Ah fun _ z=>Y Ax (Y Aa (Ac z (hR0 _ _ (A4 [0,1,2,3,4,5] [2,3,4,5,7,8] ⟨3,by decide⟩ ?_ (Ag (h:=(Ag (h:=(Ag (h:=(Ag (h:=(Ag (he:=(by simp only [EU,EJ,if_pos,if_neg, *];rfl)) (h:=(Ag (he:=(by simp only [EU,EJ,if_pos,if_neg, *];rfl))))))))))))) (Ae) (.c (.c (.c (.c (.c (.c .n))))))))));skip;all_goals (dsimp only;omega)
  refine Ah fun _ z=>Y Aa (Y Aa (Y Aa (Y Aa (Y DE (Y Aa (Y Aa (Y DE (Y (Bs am_el460 am_ar460 am_cl3) (Ar _ true [_,_,_,_,_] am_in3 am_cl3 (h:=Y (Bs am_el460 am_ar460 am_cl3) (Ar _ true [_,_,_,_,_] am_in3 am_cl3 (h:=Ac z ?_))))))))))));show Ev _ _ _ _;refine Ah fun _ z=>Y Ax (Y Aa (Ac z (hR0 _ _ (A4 [0,1,2,3,4,5] [2,3,4,5,7,8] ⟨3,by decide⟩ ?_ (Ag (h:=(Ag (h:=(Ag (h:=(Ag (h:=(Ag (he:=(by simp only [EU,EJ,if_pos,if_neg, *];rfl)) (h:=(Ag (he:=(by simp only [EU,EJ,if_pos,if_neg, *];rfl))))))))))))) (Ae) (.c (.c (.c (.c (.c (.c .n))))))))));skip;all_goals (dsimp only;omega)
 omega
theorem T7 (p:P3):Fun Tryz.prog 271 [.agg (pntC p)] (AI (bL (decide (Bl p 2097152))) []):=by
 obtain ⟨a,b,c⟩:=p;have he:Bl (a,b,c) 2097152↔(-2097152≤a∧a≤2097152)∧(-2097152≤b∧b≤2097152)∧ -2097152≤c∧c≤2097152:=Iff.rfl;refine Fun.of (nt:=31) (rs:=[.tmp 2]) Tryz.func271 rfl rfl rfl rfl rfl (Ab fun _ k=>Aq (Bo _ true) (Y Ad (Ac k (Ab fun _ k=>Y (An 0 am_fi56_0 am_cl3) (Y (Ao am_ag3) (Y BR (AS Aa (fun c1=>?_) (fun c1=>?_))))))))
 ·refine Y (An 0 am_fi56_0 am_cl3) (Y (Ao am_ag3) (Y Cb (Y AF (AS Aa (fun c2=>?_) (fun c2=>?_)))))
  ·refine Y (An 1 am_fi56_1 am_cl3) (Y (Ao am_ag3) (Y BR (Y AF (AS Aa (fun c3=>?_) (fun c3=>?_)))))
   ·refine Y (An 1 am_fi56_1 am_cl3) (Y (Ao am_ag3) (Y Cb (Y AF (AS Aa (fun c4=>?_) (fun c4=>?_)))))
    ·refine Y (An 2 am_fi56_2 am_cl3) (Y (Ao am_ag3) (Y BR (Y AF (AS Aa (fun c5=>?_) (fun c5=>?_)))))
     ·refine Y (An 2 am_fi56_2 am_cl3) (Y (Ao am_ag3) (Y Cb (Y AF (Y Ad (Ac k (Ai (Ap ?_)))))));exact dI ⟨fun h=>he.2 (by omega),fun h=>by have h1:=he.1 h;omega⟩
     refine Au (Bq (Y AE (Y Ad (Ac k (Ai (Ap ?_))))));exact bF (fun h=>by have h1:=he.1 h;omega)
    refine Au (Bq (Y AE (Y Aa (Au (Bq (Y AE (Y Ad (Ac k (Ai (Ap ?_))))))))));exact bF (fun h=>by have h1:=he.1 h;omega)
   refine Au (Bq (Y AE (Y Aa (Au (Bq (Y AE (Y Aa (Au (Bq (Y AE (Y Ad (Ac k (Ai (Ap ?_))))))))))))));exact bF (fun h=>by have h1:=he.1 h;omega)
  refine Au (Bq (Y AE (Y Aa (Au (Bq (Y AE (Y Aa (Au (Bq (Y AE (Y Aa (Au (Bq (Y AE (Y Ad (Ac k (Ai (Ap ?_))))))))))))))))));exact bF (fun h=>by have h1:=he.1 h;omega)
 refine Au (Bq (Y AE (Y Aa (Au (Bq (Y AE (Y Aa (Au (Bq (Y AE (Y Aa (Au (Bq (Y AE (Y Aa (Au (Bq (Y AE (Y Ad (Ac k (Ai (Ap ?_))))))))))))))))))))));exact bF (fun h=>by have h1:=he.1 h;omega)
theorem RC (l:List Rn) (hlen:l.length≤60) (hn:∀ r ∈ l,1≤r.n∧r.n≤1000):Fun Tryz.prog 157 [.sh 10 (l.map Rn.c)] (AI (iL (AR l)) []):=by
 refine Fun.of (nt:=19) (rs:=[.tmp 2]) Tryz.func157 rfl rfl rfl rfl rfl (Ab fun _ k=>Y Ad (Ac k (Ab fun _ k=>Y Ad (Ac k (Aj (Ab fun _ k=>Y Ad (Ac k (Ev.block (AC (ι:={q:List Rn × List Rn // q.1 ++ q.2=l∧0≤AR q.1∧AR q.1≤1000 * (q.1.length:Int)}) [] [0] (fun ⟨(pre,suf),_⟩=>[(4,iL (pre.length:Int)),(3,iL (AR pre))]) (fun ⟨(pre,suf),_⟩=>[]) (fun ⟨(pre,suf),_⟩=>suf.length) ⟨([],l),rfl,⟨Int.le_refl _,Int.le_refl _⟩⟩ (.c .n) AN (Ae (h:=(Ae))) ?_)))))))));rintro ⟨⟨pre,suf⟩,hp,hinv⟩ R0 hR0;dsimp only [cA,nA,lC,lN]
 simp only at hp hinv
 have hpl:=BO hp
 rcases suf with _ | ⟨s,suf⟩
 ·rw [List.append_nil] at hp;simp only [lN] at hpl;refine Aj (Ab fun _ k=>Y Aa (Y Aa (Y (A5 am_el23) (Y As (Ac k (Az (fun c1=>?_) (fun c1=>?_)))))))
  ·omega
  refine AA (hR0 _ _ (Ab fun _ k=>Y Aa (Y Ad (Ac k (Ai (Ap ?_))))));rw [← hp]
 simp only [lC] at hpl;have hidx:=BM hp;have hsn:=hn s (by rw [← hp];simp);have hcs:=Ff pre s;obtain ⟨v1,v2⟩:=hinv;refine Aj (Ab fun _ k=>Y Aa (Y Aa (Y (A5 am_el23) (Y As (Ac k (Az (fun c2=>?_) (fun c2=>?_)))))))
 ·refine Am (Aj (Ev.block (Ah fun _ k=>Y Aa (Y Aa (Y Aa (Y (AQ am_el23 am_cl194 (hl:=(by exact Ba hidx (by omega)))) (Y (BH 9 am_fi194_4 am_cl3) (Y (AO am_ag3) (Y Ax (Y Ad (Ac k ?_)))))))))));show Ev _ _ _ _;refine Ah fun _ k=>Y Aa (Y Ax (Y Ad (Ac k (hR0 _ _ (A4 [] [0] ⟨(pre ++ [s],suf),Bu hp,?_⟩ B9 AN (Ae (he:=(by congr 2;simp)) (h:=(Ae (he:=(by exact iE hcs.symm))))) (.c .n))))))
  (dsimp only;rw [hcs,List.length_append,List.length_singleton];omega)
 omega
theorem Ns (n:Int):Fun Tryz.prog 373 [iL n] (AI (bL (decide (Fc n))) []):=by
 have he:Fc n↔n≠0∧ -3≤n∧n≤3:=Iff.rfl;refine Fun.of (nt:=13) (rs:=[.tmp 2]) Tryz.func373 rfl rfl rfl rfl rfl (Ab fun _ k=>Y Ad (Ac k (Ab fun _ k=>Y Aa (Y BR (AS Aa (fun c1=>?_) (fun c1=>?_))))))
 ·refine Y Aa (Y Cb (Y AF (AS Aa (fun c2=>?_) (fun c2=>?_))))
  ·refine Y Aa (Y Bn (Y AF (Y Ad (Ac k (Ai (Ap ?_))))));exact dN ⟨fun h=>he.2 ⟨by omega,by omega,by omega⟩,fun h=>by have h1:=he.1 h;omega⟩
  refine Au (Y AE (Y Ad (Ac k (Ai (Ap ?_)))));exact bF (fun h=>by have h1:=he.1 h;omega)
 refine Au (Y AE (Y Aa (Au (Y AE (Y Ad (Ac k (Ai (Ap ?_))))))));exact bF (fun h=>by have h1:=he.1 h;omega)
theorem Tr (x y:Int):Fun Tryz.prog 269 [.agg [iL x,iL y]] (AI (bL (decide (Ch x y))) []):=by
 refine Fun.of (nt:=26) (rs:=[.tmp 2]) Tryz.func269 rfl rfl rfl rfl rfl (Ab fun _ k=>Aq (Bo _ true) (Y Ad (Ac k (Ab fun _ k=>Y (An 0 am_fi192_0 am_cl3) (Y (Ao am_ag3) (Ay (hF:=Ns x) (h:=AS Aa (fun c1=>?_) (fun c1=>?_))))))))
 ·refine Y (An 1 am_fi192_1 am_cl3) (Y (Ao am_ag3) (Ay (hF:=Ns y) (h:=Y AF (AS Aa (fun c2=>?_) (fun c2=>?_)))))
  ·refine Y (An 0 am_fi192_0 am_cl3) (Y (Ao am_ag3) (Y (An 1 am_fi192_1 am_cl3) (Y (Ao am_ag3) (Y Bn (Y AF (Dc Aa (fun c3=>?_) (fun c3=>?_)))))))
   ·refine Y (An 0 am_fi192_0 am_cl3) (Y (Ao am_ag3) (Y (An 1 am_fi192_1 am_cl3) (Y (Ao am_ag3) ?_)));have hy3:= ‹Fc y›
    unfold Fc at hy3
    refine Y BK (Y Bn (Y AF (Y Ad (Ac k (Ai (Ap ?_))))));exact dN ⟨fun h=>⟨‹_›, ‹_›, ‹_›,fun e=>h (by omega)⟩,fun h e=>h.2.2.2 (by omega)⟩
   refine Au (Au (Au (Y AE (Y Ad (Ac k (Ai (Ap ?_)))))));exact bF (fun h=>absurd ‹x=y› h.2.2.1)
  refine Au (Au (Bq (Y AE (Y Aa (Au (Au (Au (Y AE (Y Ad (Ac k (Ai (Ap ?_))))))))))));exact bF (fun h=>absurd h.2.1 ‹_›)
 refine Au (Bq (Y AE (Y Aa (Au (Au (Bq (Y AE (Y Aa (Au (Au (Au (Y AE (Y Ad (Ac k (Ai (Ap ?_))))))))))))))));exact bF (fun h=>absurd h.1 ‹_›)
theorem ID (n:Int):Fun Tryz.prog 374 [iL n] (AI (bL (decide (-1048576≤n∧n≤1048576))) []):=by
 refine Fun.of (nt:=9) (rs:=[.tmp 2]) Tryz.func374 rfl rfl rfl rfl rfl (Ab fun _ k=>Y Ad (Ac k (Ab fun _ k=>Y Aa (Y BR (AS Aa (fun c1=>?_) (fun c1=>?_))))))
 ·refine Y Aa (Y Cb (Y AF (Y Ad (Ac k (Ai (Ap ?_))))));exact dI ⟨fun h=>by omega,fun h=>by omega⟩
 refine Au (Y AE (Y Ad (Ac k (Ai (Ap ?_)))));exact bF (fun h=>by omega)
theorem Nw (p:P3):Fun Tryz.prog 270 [.agg (pntC p)] (AI (bL (decide (Cq p))) []):=by
 obtain ⟨a,b,c⟩:=p;have he:Cq (a,b,c)↔(-1048576≤a∧a≤1048576)∧(-1048576≤b∧b≤1048576)∧ -1048576≤c∧c≤1048576:=Iff.rfl;refine Fun.of (nt:=16) (rs:=[.tmp 2]) Tryz.func270 rfl rfl rfl rfl rfl (Ab fun _ k=>Aq (Bo _ true) (Y Ad (Ac k (Ab fun _ k=>Y (An 0 am_fi56_0 am_cl3) (Y (Ao am_ag3) (Ay (hF:=ID _) (h:=AS Aa (fun c1=>?_) (fun c1=>?_))))))))
 ·refine Y (An 1 am_fi56_1 am_cl3) (Y (Ao am_ag3) (Ay (hF:=ID _) (h:=Y AF (AS Aa (fun c2=>?_) (fun c2=>?_)))))
  ·refine Y (An 2 am_fi56_2 am_cl3) (Y (Ao am_ag3) (Ay (hF:=ID _) (h:=Y AF (Y Ad (Ac k (Ai (Ap ?_)))))));exact dI ⟨fun h=>he.2 (by omega),fun h=>by have h1:=he.1 h;omega⟩
  refine Au (Bq (Y AE (Y Ad (Ac k (Ai (Ap ?_))))));exact bF (fun h=>by have h1:=he.1 h;omega)
 refine Au (Bq (Y AE (Y Aa (Au (Bq (Y AE (Y Ad (Ac k (Ai (Ap ?_))))))))));exact bF (fun h=>by have h1:=he.1 h;omega)
theorem Mb (n:Int) (h:1≤n∧n≤3):Fun Tryz.prog 436 [iL n] (AI (.agg [iL (uV n 1),iL (uV n 2),iL (uV n 3)]) []):=by
 have h3:n=1∨n=2∨n=3:=by omega
 refine Fun.of (nt:=26) (rs:=[.cell 2 56]) Tryz.func436 rfl rfl rfl rfl rfl (Ab fun _ k=>Aq (AT am_ze56) (Ac k (Aj (Ab fun _ k=>Y Aa (Y As (Ac k (Az (fun c1=>?_) (fun c1=>?_))))))))
 ·omega
 refine Am (Aj (Ab fun _ k=>Y Aa (Y Bk (Ac k (Az (fun c2=>?_) (fun c2=>?_))))))
 ·refine Ab fun _ k=>Y (Bg _ am_ze56 am_pl56) (Ar _ true [] am_in56 am_cl56 (h:=Ac k (Ai (B1 (Bp [_,_,_] am_ag56 am_cl56 res_n) (⟨?_,rfl⟩)))))
  rcases h3 with rfl | rfl | rfl <;> first | rfl | omega
 refine Am (Aj (Ab fun _ k=>Y Aa (Y Bk (Ac k (Az (fun c3=>?_) (fun c3=>?_))))))
 ·refine Ab fun _ k=>Y (Bg _ am_ze56 am_pl56) (Ar _ true [] am_in56 am_cl56 (h:=Ac k (Ai (B1 (Bp [_,_,_] am_ag56 am_cl56 res_n) (⟨?_,rfl⟩)))))
  rcases h3 with rfl | rfl | rfl <;> first | rfl | omega
 refine Am (Ab fun _ k=>Y (Bg _ am_ze56 am_pl56) (Ar _ true [] am_in56 am_cl56 (h:=Ac k (Ai (B1 (Bp [_,_,_] am_ag56 am_cl56 res_n) (⟨?_,rfl⟩))))))
 rcases h3 with rfl | rfl | rfl <;> first | rfl | omega
theorem Ps {n:Int} (h:n≠0) (i:Int) (hi:i≠0):0 - uV (0 - n) i=uV n i:=by
 unfold uV
 by_cases h1:n=i
 ·rw [if_pos h1,if_neg (by omega),if_pos (by omega)];rfl
 by_cases h2:n= -i
 ·rw [if_pos (show 0 - n=i by omega),if_neg h1,if_pos h2];rfl
 rw [if_neg (show ¬ 0 - n=i by omega),if_neg (show ¬ 0 - n= -i by omega),if_neg h1,if_neg h2];rfl
theorem Nz (n:Int) (h:Fc n):Fun Tryz.prog 436 [iL n] (AI (.agg [iL (uV n 1),iL (uV n 2),iL (uV n 3)]) []):=by
 obtain ⟨h1,h2,h3⟩:=h
 by_cases hn:0 < n
 ·exact Mb n ⟨by omega,h3⟩
 have hi1:=D0 (0 - n) 1;have hi2:=D0 (0 - n) 2;have hi3:=D0 (0 - n) 3;refine Fun.of (nt:=26) (rs:=[.cell 2 56]) Tryz.func436 rfl rfl rfl rfl rfl (Ab fun _ k=>Aq (AT am_ze56) (Ac k (Aj (Ab fun _ k=>Y Aa (Y As (Ac k (Az (fun c1=>?_) (fun c1=>?_))))))))
 ·refine Ab fun _ k=>Y Aa (Y BK (Ay (hF:=Mb (0 - n) ⟨by omega,by omega⟩) (h:=Aq (AT am_ze56) (Ar _ true [_] am_in56 am_cl56 (h:=Ac k (Ab fun _ k=>Y (An 0 am_fi56_0 am_cl3) (Y (Ao am_ag3) (Y BK (Y (An 1 am_fi56_1 am_cl3) (Y (Ao am_ag3) (Y BK (Y (An 2 am_fi56_2 am_cl3) (Y (Ao am_ag3) (Y BK (Y (Bg _ am_ze56 am_pl56) (Ar _ true [_] am_in56 am_cl56 (h:=Ac k (Ai (B1 (Bp [_,_,_] am_ag56 am_cl56 res_n) (⟨?_,rfl⟩))))))))))))))))))))
  (rw [Ps h1 1 (by decide),Ps h1 2 (by decide),Ps h1 3 (by decide)];done)
 omega
theorem Jt (n:Int) (p:P3) (hn: -100000000≤n∧n≤100000000) (hp:Bl p 100000000):Fun Tryz.prog 437 [iL n, .agg (pntC p)] (AI (.agg (pntC (n * p.1,n * p.2.1,n * p.2.2))) []):=by
 obtain ⟨a,b,c⟩:=p
 unfold Bl at hp
 dsimp only at hp
 have m1:=CR (a:=n) (b:=a) (A:=100000000) (B:=100000000) hn hp.1;have m2:=CR (a:=n) (b:=b) (A:=100000000) (B:=100000000) hn hp.2.1;have m3:=CR (a:=n) (b:=c) (A:=100000000) (B:=100000000) hn hp.2.2;refine Fun.of (nt:=18) (rs:=[.cell 4 56]) Tryz.func437 rfl rfl rfl rfl rfl (Ab fun _ k=>Aq (Bo _ true) (Aq (AT am_ze56) (Ac k (Ab fun _ k=>Y Aa (Y (An 0 am_fi56_0 am_cl3) (Y (Ao am_ag3) (Y BC (Y Aa (Y (An 1 am_fi56_1 am_cl3) (Y (Ao am_ag3) (Y BC (Y Aa (Y (An 2 am_fi56_2 am_cl3) (Y (Ao am_ag3) (Y BC (Y (Bg _ am_ze56 am_pl56) (Ar _ true [_] am_in56 am_cl56 (h:=Ac k (Ai (B1 (Bp [_,_,_] am_ag56 am_cl56 res_n) (⟨?_,rfl⟩)))))))))))))))))))));rfl
theorem GU (p q:P3) (hp:Bl p 1000000000000000000) (hq:Bl q 1000000000000000000):Fun Tryz.prog 376 [.agg (pntC p), .agg (pntC q)] (AI (.agg (pntC (C8 p q))) []):=by
 obtain ⟨a,b,c⟩:=p;obtain ⟨d,e,f⟩:=q
 unfold Bl at hp hq
 dsimp only at hp hq
 refine Fun.of (nt:=21) (rs:=[.cell 4 56]) Tryz.func376 rfl rfl rfl rfl rfl (Ab fun _ k=>Aq (Bo _ true) (Aq (Bo _ true) (Aq (AT am_ze56) (Ac k (Ab fun _ k=>Y (An 0 am_fi56_0 am_cl3) (Y (Ao am_ag3) (Y (An 0 am_fi56_0 am_cl3) (Y (Ao am_ag3) (Y Ax (Y (An 1 am_fi56_1 am_cl3) (Y (Ao am_ag3) (Y (An 1 am_fi56_1 am_cl3) (Y (Ao am_ag3) (Y Ax (Y (An 2 am_fi56_2 am_cl3) (Y (Ao am_ag3) (Y (An 2 am_fi56_2 am_cl3) (Y (Ao am_ag3) (Y Ax (Y (Bg _ am_ze56 am_pl56) (Ar _ true [_,_] am_in56 am_cl56 (h:=Ac k (Ai (B1 (Bp [_,_,_] am_ag56 am_cl56 res_n) (⟨?_,rfl⟩)))))))))))))))))))))))));rfl
theorem RD (x y:Int):Fun Tryz.prog 438 [.agg [iL (uV x 1),iL (uV x 2),iL (uV x 3)], .agg [iL (uV y 1),iL (uV y 2),iL (uV y 3)]] (AI (.agg [iL (Hk x y),iL (Hl x y),iL (Hm x y)]) []):=by
 have hb:∀ i j:Int, -1≤uV x i * uV y j∧uV x i * uV y j≤1:=fun i j=>by
  have:=CR (D0 x i) (D0 y j);omega
 have h1:=hb 2 3;have h2:=hb 3 2;have h3:=hb 3 1;have h4:=hb 1 3;have h5:=hb 1 2;have h6:=hb 2 1;refine Fun.of (nt:=39) (rs:=[.cell 4 56]) Tryz.func438 rfl rfl rfl rfl rfl (Ab fun _ k=>Aq (Bo _ true) (Aq (Bo _ true) (Aq (AT am_ze56) (Ac k (Ab fun _ k=>Y (An 1 am_fi56_1 am_cl3) (Y (Ao am_ag3) (Y (An 2 am_fi56_2 am_cl3) (Y (Ao am_ag3) (Y BC (Y (An 2 am_fi56_2 am_cl3) (Y (Ao am_ag3) (Y (An 1 am_fi56_1 am_cl3) (Y (Ao am_ag3) (Y BC (Y BK (Y (An 2 am_fi56_2 am_cl3) (Y (Ao am_ag3) (Y (An 0 am_fi56_0 am_cl3) (Y (Ao am_ag3) (Y BC (Y (An 0 am_fi56_0 am_cl3) (Y (Ao am_ag3) (Y (An 2 am_fi56_2 am_cl3) (Y (Ao am_ag3) (Y BC (Y BK (Y (An 0 am_fi56_0 am_cl3) (Y (Ao am_ag3) (Y (An 1 am_fi56_1 am_cl3) (Y (Ao am_ag3) (Y BC (Y (An 1 am_fi56_1 am_cl3) (Y (Ao am_ag3) (Y (An 0 am_fi56_0 am_cl3) (Y (Ao am_ag3) (Y BC (Y BK (Y (Bg _ am_ze56 am_pl56) (Ar _ true [_,_] am_in56 am_cl56 (h:=Ac k (Ai (B1 (Bp [_,_,_] am_ag56 am_cl56 res_n) (⟨?_,rfl⟩)))))))))))))))))))))))))))))))))))))))))));rfl
theorem Xd (x y:Int) (p:P3):C8 (p.1 * uV x 1,p.1 * uV x 2,p.1 * uV x 3) (C8 (p.2.1 * uV y 1,p.2.1 * uV y 2,p.2.1 * uV y 3) (p.2.2 * Hk x y,p.2.2 * Hl x y,p.2.2 * Hm x y))=Ei x y p:=by
 unfold C8 Ei
 simp only [Int.mul_comm,Int.add_assoc]
theorem Vp {x:Int} {n:Int} (hn: -10000000≤n∧n≤10000000):Bl (n * uV x 1,n * uV x 2,n * uV x 3) 10000000:=by
 have h1:=CR hn (D0 x 1);have h2:=CR hn (D0 x 2);have h3:=CR hn (D0 x 3)
 unfold Bl
 dsimp only
 omega
theorem LX (x y:Int) (p:P3) (h:Ch x y) (hp:Bl p 10000000):Fun Tryz.prog 378 [.agg [iL x,iL y], .agg (pntC p)] (AI (.agg (pntC (Ei x y p))) []):=by
 obtain ⟨hx,hy,_,_⟩:=h;rw [← Xd];obtain ⟨a,b,c⟩:=p;have hq:(-10000000≤a∧a≤10000000)∧(-10000000≤b∧b≤10000000)∧ -10000000≤c∧c≤10000000:=hp;obtain ⟨q1,q2,q3⟩:=hq;have g1:=Vp (x:=x) q1;have g2:=Vp (x:=y) q2;obtain ⟨c1,c2,c3⟩:=Vm x y;have d1:=CR q3 c1;have d2:=CR q3 c2;have d3:=CR q3 c3
 have g3:Bl (c * Hk x y,c * Hl x y,c * Hm x y) 20000000:=by
  unfold Bl
  dsimp only
  omega
 have gu1:Bl (uV x 1,uV x 2,uV x 3) 100000000:=by have:=D0 x 1;have:=D0 x 2;have:=D0 x 3;unfold Bl;dsimp only;omega
 have gu2:Bl (uV y 1,uV y 2,uV y 3) 100000000:=by have:=D0 y 1;have:=D0 y 2;have:=D0 y 3;unfold Bl;dsimp only;omega
 have gu3:Bl (Hk x y,Hl x y,Hm x y) 100000000:=by unfold Bl;dsimp only;omega
 have gs:Bl (C8 (b * uV y 1,b * uV y 2,b * uV y 3) (c * Hk x y,c * Hl x y,c * Hm x y)) 100000000:=by
  unfold Bl C8 at *
  dsimp only at *
  omega
 have k1:=Jt a (uV x 1,uV x 2,uV x 3) (by omega) gu1;have k2:=Jt b (uV y 1,uV y 2,uV y 3) (by omega) gu2;have k3:=Jt c (Hk x y,Hl x y,Hm x y) (by omega) gu3;have k4:=GU (b * uV y 1,b * uV y 2,b * uV y 3) (c * Hk x y,c * Hl x y,c * Hm x y) (C6 g2 (by omega)) (C6 g3 (by omega));have k5:=GU (a * uV x 1,a * uV x 2,a * uV x 3) _ (C6 g1 (by omega)) (C6 gs (by omega))
 refine Fun.of (nt:=29) (rs:=[.cell 4 56]) Tryz.func378 rfl rfl rfl rfl rfl (Ab fun _ k=>Aq (Bo _ true) (Aq (Bo _ true) (Aq (AT am_ze56) (Ac k (Ab fun _ k=>Y (An 0 am_fi192_0 am_cl3) (Y (Ao am_ag3) (Ay (hF:=Nz x hx) (h:=Aq (AT am_ze56) (Ar _ true [_,_,_] am_in56 am_cl56 (h:=Ac k (Ab fun _ k=>Y (An 1 am_fi192_1 am_cl3) (Y (Ao am_ag3) (Ay (hF:=Nz y hy) (h:=Aq (AT am_ze56) (Ar _ true [_,_,_,_] am_in56 am_cl56 (h:=Ac k (BW (tbs [(0,0),(1,1),(0,0),(3,7),(0,0),(5,16),(0,0),(7,127),(0,0),(9,256),(0,0),(0,0),(12,3327),(13,8191),(14,16383),(15,32767),(16,65535)]) 16 fun _ k=>Ak (An 0 am_fi56_0 am_cl3) (Ak (Ao am_ag3) (Ak (A6 _ am_ag56 am_cl56) (Cc (hF:=k1) (h:=Ak (An 1 am_fi56_1 am_cl3) (Ak (Ao am_ag3) (Ak (A6 _ am_ag56 am_cl56) (Cc (hF:=k2) (h:=Ak (An 2 am_fi56_2 am_cl3) (Ak (Ao am_ag3) (Ak (A6 _ am_ag56 am_cl56) (Ak (A6 _ am_ag56 am_cl56) (Cc (hF:=RD x y) (h:=Cc (hF:=k3) (h:=Cc (hF:=k4) (h:=Cc (hF:=k5) (h:=B3 [_,_,_,_,_] (h:=Ar _ true [_,_,_,_] am_in56 am_cl56 (h:=Ac k (Ai (B1 (Bp [_,_,_] am_ag56 am_cl56 res_n) (⟨?_,rfl⟩))))))))))))))))))))))))))))))))))))));rfl
def pathM:List P3→P3→List P3
 |[],p=>[p]
 |m :: l,p=>p :: pathM l (C8 p m)
def I8 (l:List P3):P3:=l.foldl C8 (0,0,0)
theorem MV (l:List P3) (s:P3):I8 (l ++ [s])=C8 (I8 l) s:=by simp [I8]
theorem LP (s:P3):∀ (l:List P3) (p:P3),pathM (l ++ [s]) p=pathM l p ++ [C8 (l.foldl C8 p) s]
 |[],p=>rfl
 |t :: l,p=>by rw [List.cons_append,pathM,LP s l,pathM];rfl
theorem pathM_len:∀ (l:List P3) (p:P3),(pathM l p).length=l.length+1
 |[],_=>rfl
 |t :: l,p=>by rw [pathM,List.length_cons,pathM_len l,List.length_cons]
theorem endM_bd:∀ l:List P3,(∀ s ∈ l,Bl s 262144)→Bl (I8 l) (262144 * l.length):=by
 refine Ft (fun _=>by unfold Bl I8;simp) ?_;intro l s ih h;have h1:=ih fun t ht=>h t (by simp [ht]);have h2:=h s (by simp);rw [MV,List.length_append,List.length_singleton]
 unfold Bl C8 at *
 dsimp only at *
 omega
theorem Te {pre:List P3} {s:P3}:(pathM pre (0,0,0) ++ [C8 (I8 pre) s]).map pntC=(pathM (pre ++ [s]) (0,0,0)).map pntC:=by
 rw [LP];rfl
theorem Rw {pre:List P3} {s q p:P3}:(pathM pre p ++ [q]).length=(pathM (pre ++ [s]) p).length:=by
 rw [pathM_len,List.length_append,pathM_len]
 simp
theorem Uw {b:Bar} (h:BU b):∀ s ∈ BE b,Bl s 262144:=fun s hs=>by
 have:=(Gp h).2 s hs
 unfold Bl
 omega
theorem To (b:Bar) (hok:BU b):Fun Tryz.prog 375 [.agg b.c] (AI (.sh 3 ((pathM (BE b) (0,0,0)).map pntC)) []):=by
 have hpl0:=Uw hok
 have hl6:(BE b).length≤6:=by
  have h1:=congrArg List.length (Gp hok).1;rw [List.length_map] at h1;have:=F2 b;omega
 refine Fun.of (nt:=48) (rs:=[.tmp 2]) Tryz.func375 rfl rfl rfl rfl rfl (Ab fun _ z=>Aq (Bo _ true) (Y Ad (Ac z (Ab fun _ z=>Y (A6 _ am_ag168 am_cl168) (Ay (hF:=SQ b hok) (h:=Y Ad (Ac z (Ab fun _ z=>Y (Bg _ am_ze56 am_pl56) (Aq (AT am_ze56) (Ar _ true [_] am_in56 am_cl56 (h:=Ac z (Ab fun _ z=>Y (A6 _ am_ag56 am_cl56) (Aq (Bf [[_,_,_]] true am_el380 am_ze56 am_cl56) (Y Ad (Ac z (Aj (Ab fun _ z=>Y Ad (Ac z (Ev.block (AC (ι:={p:List ((Int × Int × Int)) × List ((Int × Int × Int)) // p.1 ++ p.2=(BE b)∧True}) [0,1,2] [3,4] (fun ⟨(pre,suf),_⟩=>[(6,iL (pre.length:Int)),(5, .als 2 0 (pathM pre (0,0,0)).length)]) (fun ⟨(pre,suf),_⟩=>[(0,⟨false,168,5,[[sL (b.mark),iL (b.size),iL (b.count),iL (b.code), .sh 1 ((b.dims).map AD)]],true⟩),(1,⟨false,56,3,[[iL ((I8 pre).1),iL ((I8 pre).2.1),iL ((I8 pre).2.2)]],true⟩),(2,⟨true,56,3,(pathM pre (0,0,0)).map pntC,true⟩)]) (fun ⟨(pre,suf),_⟩=>suf.length) ⟨([],(BE b)),rfl,trivial⟩ (.c (.c .n)) (Ag (h:=(Ag (h:=(Ag))))) (Ae (h:=(Ae))) ?_))))))))))))))))))));rintro ⟨⟨pre,suf⟩,hp,hinv⟩ R0 hR0;dsimp only [cA,nA,lC,lN]
 simp only at hp hinv
 have hpl:=BO hp
 rcases suf with _ | ⟨s,suf⟩
 ·rw [List.append_nil] at hp;simp only [lN] at hpl;refine Aj (Ab fun _ z=>Y Aa (Y Aa (Y (A5 am_el380) (Y As (Ac z (Az (fun c1=>?_) (fun c1=>?_)))))))
  ·omega
  refine AA (hR0 _ _ (Ab fun _ z=>Y Aa (Y Ad (Ac z (Av (Wk.frz 2 [_,_]) (Ai (Ap ?_)))))));rw [← hp]
 obtain ⟨sx,sy,sz⟩:=s;simp only [lC] at hpl;have hidx:=BM hp;have hsb:(-262144≤sx∧sx≤262144)∧(-262144≤sy∧sy≤262144)∧ -262144≤sz∧sz≤262144:=hpl0 (sx,sy,sz) (by rw [← hp];simp);have heb:=endM_bd pre (fun t ht=>hpl0 t (by rw [← hp];simp [ht]))
 unfold Bl at heb
 have hpm:=pathM_len pre (0,0,0);refine Aj (Ab fun _ z=>Y Aa (Y Aa (Y (A5 am_el380) (Y As (Ac z (Az (fun c2=>?_) (fun c2=>?_)))))))
 ·refine Am (Aj (Ev.block (BW (tbs [(0,0),(1,1),(0,0),(0,0),(4,12),(5,28),(6,60),(7,127),(0,0),(9,256),(0,0),(0,0),(12,3072),(13,7168),(14,15360),(15,32512),(0,0),(17,65536),(0,0),(0,0),(20,786432),(21,1835008),(22,3932160),(23,8323072),(24,16777215),(25,33554431)]) 25 fun _ z=>Ak (An 0 am_fi56_0 am_cl3) (Ak (Ao am_ag3) (Ak Aa (Ak Aa (Ak (AQ am_el380 am_cl56 (hl:=(by exact Ba hidx (by omega)))) (Ak (BH 0 am_fi56_0 am_cl3) (Ak (AO am_ag3) (Ak Ax (Ak (An 1 am_fi56_1 am_cl3) (Ak (Ao am_ag3) (Ak Aa (Ak Aa (Ak (AQ am_el380 am_cl56 (hl:=(by exact Ba hidx (by omega)))) (Ak (BH 1 am_fi56_1 am_cl3) (Ak (AO am_ag3) (Ak Ax (Ak (An 2 am_fi56_2 am_cl3) (Ak (Ao am_ag3) (Ak Aa (Ak Aa (Ak (AQ am_el380 am_cl56 (hl:=(by exact Ba hidx (by omega)))) (Ak (BH 2 am_fi56_2 am_cl3) (Ak (AO am_ag3) (Ak Ax (Ak (Bg _ am_ze56 am_pl56) (B3 [_,_,_] (h:=Ar _ true [_,_] am_in56 am_cl56 (h:=Ac z (Ah fun _ z=>Y Aa (Y (A6 _ am_ag56 am_cl56) (Aq (Bf [[_,_,_]] true am_el380 am_ze56 am_cl56) (AW [_,_,_] am_el380 am_ze56 am_cl56 am_by56 (hh:=A3) (hr:=(A7 [(C8 (I8 pre) (sx,sy,sz))])) (h:=Y Ad (Ac z ?_))))))))))))))))))))))))))))))))))));show Ev _ _ _ _
  refine Ah fun _ z=>Y Aa (Y Ax (Y Ad (Ac z (hR0 _ _ (A4 [0,1,104] [3,4] ⟨(pre ++ [(sx,sy,sz)],suf),Bu hp,trivial⟩ B9 (Ag (h:=(Ag (he:=(by rw [MV];rfl)) (h:=(Ag (he:=(by exact Te))))))) (Ae (he:=(by congr 2;simp)) (h:=(Ae (he:=(by exact congrArg (fun k=>AV.als 2 0 k) Rw))))) (.c (.c .n)))))));skip
 omega
theorem Nn {b:Bar} (h:BU b):pathM (BE b) (0,0,0)=Du b:=by
 rcases Hq b.code with e | e | e | e | e | e | e | e | e
 iterate 8
  ·unfold BE Du
   rw [e]
   simp [pathM,Dj,DI,C8,Cp]
   try omega
 exact absurd (Dh e).2 h.2.2.2.2.1
theorem Nl {b:Bar} (h:BU b):DV (Du b):=by
 rcases Hq b.code with e | e | e | e | e | e | e | e | e
 ·obtain ⟨_,g0,f0⟩:=B2 h (i:=0) (by rw [e];decide);intro p hp
  unfold Du at hp
  rw [e] at hp
  simp [Dj,DI,Cp] at hp
  rcases hp with rfl | rfl <;> (unfold Cq;dsimp only;omega)
 ·obtain ⟨_,g0,f0⟩:=B2 h (i:=0) (by rw [e];decide);obtain ⟨_,g1,f1⟩:=B2 h (i:=1) (by rw [e];decide);intro p hp
  unfold Du at hp
  rw [e] at hp
  simp [Dj,DI,Cp] at hp
  rcases hp with rfl | rfl | rfl <;> (unfold Cq;dsimp only;omega)
 ·obtain ⟨_,g0,f0⟩:=B2 h (i:=0) (by rw [e];decide);obtain ⟨_,g1,f1⟩:=B2 h (i:=1) (by rw [e];decide);obtain ⟨_,g2,f2⟩:=B2 h (i:=2) (by rw [e];decide);intro p hp
  unfold Du at hp
  rw [e] at hp
  simp [Dj,DI,Cp] at hp
  rcases hp with rfl | rfl | rfl | rfl <;> (unfold Cq;dsimp only;omega)
 ·obtain ⟨_,g0,f0⟩:=B2 h (i:=0) (by rw [e];decide);obtain ⟨_,g1,f1⟩:=B2 h (i:=1) (by rw [e];decide);obtain ⟨_,g2,f2⟩:=B2 h (i:=2) (by rw [e];decide);intro p hp
  unfold Du at hp
  rw [e] at hp
  simp [Dj,DI,Cp] at hp
  rcases hp with rfl | rfl | rfl | rfl <;> (unfold Cq;dsimp only;omega)
 ·obtain ⟨_,g0,f0⟩:=B2 h (i:=0) (by rw [e];decide);obtain ⟨_,g1,f1⟩:=B2 h (i:=1) (by rw [e];decide);obtain ⟨_,g2,f2⟩:=B2 h (i:=2) (by rw [e];decide);intro p hp
  unfold Du at hp
  rw [e] at hp
  simp [Dj,DI,Cp] at hp
  rcases hp with rfl | rfl | rfl | rfl <;> (unfold Cq;dsimp only;omega)
 ·obtain ⟨_,g0,f0⟩:=B2 h (i:=0) (by rw [e];decide);obtain ⟨_,g1,f1⟩:=B2 h (i:=1) (by rw [e];decide);obtain ⟨_,g2,f2⟩:=B2 h (i:=2) (by rw [e];decide);obtain ⟨_,g3,f3⟩:=B2 h (i:=3) (by rw [e];decide);obtain ⟨_,g4,f4⟩:=B2 h (i:=4) (by rw [e];decide);intro p hp
  unfold Du at hp
  rw [e] at hp
  simp [Dj,DI,Cp] at hp
  rcases hp with rfl | rfl | rfl | rfl | rfl | rfl <;> (unfold Cq;dsimp only;omega)
 ·obtain ⟨_,g0,f0⟩:=B2 h (i:=0) (by rw [e];decide);obtain ⟨_,g1,f1⟩:=B2 h (i:=1) (by rw [e];decide);obtain ⟨_,g2,f2⟩:=B2 h (i:=2) (by rw [e];decide);intro p hp
  unfold Du at hp
  rw [e] at hp
  simp [Dj,DI,Cp] at hp
  rcases hp with rfl | rfl | rfl | rfl | rfl | rfl | rfl <;> (unfold Cq;dsimp only;omega)
 ·obtain ⟨_,g0,f0⟩:=B2 h (i:=0) (by rw [e];decide);obtain ⟨_,g1,f1⟩:=B2 h (i:=1) (by rw [e];decide);obtain ⟨_,g2,f2⟩:=B2 h (i:=2) (by rw [e];decide);intro p hp
  unfold Du at hp
  rw [e] at hp
  simp [Dj,DI,Cp] at hp
  rcases hp with rfl | rfl | rfl | rfl | rfl | rfl <;> (unfold Cq;dsimp only;omega)
 exact absurd (Dh e).2 h.2.2.2.2.1
theorem Hz (l:List P3) (hlen:l.length≤140737488355328):Fun Tryz.prog 272 [.sh 3 (l.map pntC)] (AI (bL (decide (DV l))) []):=by
 refine Fun.of (nt:=16) (rs:=[.tmp 2]) Tryz.func272 rfl rfl rfl rfl rfl (Ab fun _ z=>Y Ad (Ac z (Aj (Ab fun _ z=>Y Ad (Ac z (Ev.block (AC (ι:={q:List P3 × List P3 // q.1 ++ q.2=l∧DV q.1}) [] [0] (fun ⟨(pre,suf),_⟩=>[(3,iL (pre.length:Int))]) (fun ⟨(pre,suf),_⟩=>[]) (fun ⟨(pre,suf),_⟩=>suf.length) ⟨([],l),rfl,fun x hx=>by simp at hx⟩ (.c .n) AN (Ae) ?_)))))));rintro ⟨⟨pre,suf⟩,hp,hinv⟩ R0 hR0;dsimp only [cA,nA,lC,lN]
 simp only at hp hinv
 have hpl:=BO hp
 rcases suf with _ | ⟨s,suf⟩
 ·rw [List.append_nil] at hp;simp only [lN] at hpl;refine Aj (Ab fun _ z=>Y Aa (Y Aa (Y (A5 am_el380) (Y As (Ac z (Az (fun c1=>?_) (fun c1=>?_)))))))
  ·omega
  refine AA (hR0 _ _ (Ab fun _ z=>Y Ad (Ac z (Ai (Ap ?_)))));exact bT (by rw [← hp];exact hinv)
 obtain ⟨sx,sy,sz⟩:=s;simp only [lC] at hpl;have hidx:=BM hp;refine Aj (Ab fun _ z=>Y Aa (Y Aa (Y (A5 am_el380) (Y As (Ac z (Az (fun c2=>?_) (fun c2=>?_)))))))
 ·refine Am (Aj (Ev.block (Ab fun _ z=>Y Aa (Y Aa (Y (AQ am_el380 am_cl56 (hl:=(by exact Ba hidx (by omega)))) (Y (Bv _ am_ag56 am_cl56) (Ay (hF:=Nw (sx,sy,sz)) (h:=Y Bw (Ac z (Bh (fun c3=>?_) (fun c3=>?_)))))))))))
  ·refine Ab fun _ z=>Y Ad (Ac z (Ai (hR0 _ _ (Ap ?_))));exact bF (fun h=>absurd (h (sx,sy,sz) (by rw [← hp];simp)) ‹_›)
  refine Am (Ah fun _ z=>Y Aa (Y Ax (Y Ad (Ac z (hR0 _ _ (A4 [] [0] ⟨(pre ++ [(sx,sy,sz)],suf),Bu hp,?_⟩ B9 AN (Ae (he:=(by congr 2;simp))) (.c .n)))))));intro x hx
  rcases List.mem_append.1 hx with hx | hx
  ·exact hinv x hx
  ·rw [List.mem_singleton] at hx;subst hx;assumption
 omega
theorem Pg (p:P3) (k:Int) (hp:Bl p 2097152) (hk:0≤k∧k≤1000):Fun Tryz.prog 377 [.agg (pntC p),iL k] (AI (.agg (pntC (p.1 * k,p.2.1 * k,p.2.2 * k))) []):=by
 obtain ⟨a,b,c⟩:=p
 unfold Bl at hp
 dsimp only at hp
 have m1:=CR (a:=a) (b:=k) (A:=2097152) (B:=1000) hp.1 (by omega);have m2:=CR (a:=b) (b:=k) (A:=2097152) (B:=1000) hp.2.1 (by omega);have m3:=CR (a:=c) (b:=k) (A:=2097152) (B:=1000) hp.2.2 (by omega);refine Fun.of (nt:=18) (rs:=[.cell 4 56]) Tryz.func377 rfl rfl rfl rfl rfl (Ab fun _ z=>Aq (Bo _ true) (Aq (AT am_ze56) (Ac z (Ab fun _ z=>Y (An 0 am_fi56_0 am_cl3) (Y (Ao am_ag3) (Y Aa (Y BC (Y (An 1 am_fi56_1 am_cl3) (Y (Ao am_ag3) (Y Aa (Y BC (Y (An 2 am_fi56_2 am_cl3) (Y (Ao am_ag3) (Y Aa (Y BC (Y (Bg _ am_ze56 am_pl56) (Ar _ true [_] am_in56 am_cl56 (h:=Ac z (Ai (B1 (Bp [_,_,_] am_ag56 am_cl56 res_n) (⟨?_,rfl⟩)))))))))))))))))))));rfl
def Qy (r:Rn) (k:Int):P3:=if k > 0 then C8 r.at (r.sx * k,r.sy * k,r.sz * k) else r.at
theorem Rv {r:Rn} {k:Int} (h:k > 0):Qy r k=C8 r.at (r.sx * k,r.sy * k,r.sz * k):=if_pos h
theorem Ru {r:Rn} {k:Int} (h:¬ k > 0):Qy r k=r.at:=if_neg h
theorem Xl {r:Rn} {k:Int} (ha:Bl r.at 1048576) (hk:0≤k∧k≤1000) (hs:k > 0→Bl r.st 2097152):Bl (Qy r k) 3000000000:=by
 by_cases h:k > 0
 ·rw [Rv h];have hq:(-2097152≤r.sx∧r.sx≤2097152)∧(-2097152≤r.sy∧r.sy≤2097152)∧ -2097152≤r.sz∧r.sz≤2097152:=hs h;have m1:=CR (a:=r.sx) (b:=k) (A:=2097152) (B:=1000) hq.1 (by omega);have m2:=CR (a:=r.sy) (b:=k) (A:=2097152) (B:=1000) hq.2.1 (by omega);have m3:=CR (a:=r.sz) (b:=k) (A:=2097152) (B:=1000) hq.2.2 (by omega);have hb:(-1048576≤r.ax∧r.ax≤1048576)∧(-1048576≤r.ay∧r.ay≤1048576)∧ -1048576≤r.az∧r.az≤1048576:=ha
  show Bl (r.ax+r.sx * k,r.ay+r.sy * k,r.az+r.sz * k) _
  unfold Bl
  dsimp only
  omega
 rw [Ru h];exact C6 ha (by omega)
theorem SB {x y:Int} {q:P3} (h:Cq q):Bl (Ei x y q) 10000000:=by
 obtain ⟨e1,e2⟩:=FM (x:=x) (y:=y) h 1;obtain ⟨e3,e4⟩:=FM (x:=x) (y:=y) h 2;obtain ⟨e5,e6⟩:=FM (x:=x) (y:=y) h 3;obtain ⟨e7,e8,e9⟩:=L8 (x:=x) (y:=y) h
 unfold Bl Ei
 dsimp only
 omega
def Hi (b:Bar) (r:Rn) (k:Int):List P3:=(pathM (BE b) (0,0,0)).map fun p=>C8 (Qy r k) (Ei r.tx r.ty p)
theorem GD (b:Bar) (r:Rn) (k:Int) (hok:BU b) (ht:Ch r.tx r.ty) (ha:Bl r.at 1048576) (hk:0≤k∧k≤1000) (hs:k > 0→Bl r.st 2097152):Fun Tryz.prog 273 [.agg b.c, .agg r.c,iL k] (AI (.sh 3 ((Hi b r k).map pntC)) []):=by
 have hnl:DV (pathM (BE b) (0,0,0)):=by rw [Nn hok];exact Nl hok
 have hll:(pathM (BE b) (0,0,0)).length≤7:=by
  have h1:=congrArg List.length (Gp hok).1;rw [List.length_map] at h1;have:=F2 b;rw [pathM_len];omega
 have hpf:=To b hok
 unfold Hi
 obtain ⟨l,hl⟩:∃ l,l=pathM (BE b) (0,0,0):=⟨_,rfl⟩;rw [← hl] at hnl hll hpf ⊢;have hab:=Xl ha hk hs;obtain ⟨A,hA⟩:∃ A,A=Qy r k:=⟨_,rfl⟩;rw [← hA] at hab ⊢;obtain ⟨a1,a2,a3⟩:=A;refine Fun.of (nt:=42) (rs:=[.tmp 6]) Tryz.func273 rfl rfl rfl rfl rfl (Ab fun _ z=>Aq (Bo _ true) (Aq (Bo _ true) (Y Ad (Ac z (Ab fun _ z=>Y (A6 _ am_ag168 am_cl168) (Ay (hF:=hpf) (h:=Y Ad (Ac z (Ab fun _ z=>Y (An 3 am_fi194_2 am_cl56) (Y (A6 _ am_ag56 am_cl56) (Aq (AT am_ze56) (Ar _ true [_,_] am_in56 am_cl56 (h:=Ac z (Aj (Ab fun _ z=>Y Aa (Y Be (Ac z (Az (fun c1=>?_) (fun c1=>?_)))))))))))))))))))
 ·have hst:k > 0→Bl (r.sx * k,r.sy * k,r.sz * k) 1000000000000000000:=fun h=>by
   have hq:(-2097152≤r.sx∧r.sx≤2097152)∧(-2097152≤r.sy∧r.sy≤2097152)∧ -2097152≤r.sz∧r.sz≤2097152:=hs h;have m1:=CR (a:=r.sx) (b:=k) (A:=2097152) (B:=1000) hq.1 (by omega);have m2:=CR (a:=r.sy) (b:=k) (A:=2097152) (B:=1000) hq.2.1 (by omega);have m3:=CR (a:=r.sz) (b:=k) (A:=2097152) (B:=1000) hq.2.2 (by omega)
   unfold Bl
   dsimp only
   omega
  refine CP (tbs [(0,0),(0,0),(2,2),(0,0),(4,14),(5,31),(6,63)]) 6 fun _ z=>Ak (A6 _ am_ag56 am_cl56) (Ak (An 6 am_fi194_3 am_cl56) (Ak (A6 _ am_ag56 am_cl56) (Ak Aa (Cc (hF:=Pg r.st k (hs (by omega)) (by omega)) (h:=Cc (hF:=GU r.at (r.sx * k,r.sy * k,r.sz * k) (C6 ha (by omega)) (hst (by omega))) (h:=B3 [_,_,_] (h:=Ar _ true [_,_] am_in56 am_cl56 (h:=Ac z ?_))))))));show Ev _ _ _ _
  refine Ab fun _ z=>Y Ad (Ac z (Aj (Ab fun _ z=>Y Ad (Ac z (Ev.block (Av (Wk.nown pntC 9 56 3) (AC (ι:={p:List ((Int × Int × Int)) × List ((Int × Int × Int)) // p.1 ++ p.2=l∧True}) [0,1,2,27] [4,7,8] (fun ⟨(pre,suf),_⟩=>[(10,iL (pre.length:Int)),(9, .als 3 0 (pre.map fun p=>C8 (a1,a2,a3) (Ei r.tx r.ty p)).length)]) (fun ⟨(pre,suf),_⟩=>[(0,⟨false,168,5,[[sL (b.mark),iL (b.size),iL (b.count),iL (b.code), .sh 1 ((b.dims).map AD)]],true⟩),(1,⟨false,194,10,[[sL (r.mark),iL (r.tx),iL (r.ty),iL (r.ax),iL (r.ay),iL (r.az),iL (r.sx),iL (r.sy),iL (r.sz),iL (r.n)]],true⟩),(2,⟨false,56,3,[[iL (a1),iL (a2),iL (a3)]],true⟩),(3,⟨true,56,3,(pre.map fun p=>C8 (a1,a2,a3) (Ei r.tx r.ty p)).map pntC,true⟩)]) (fun ⟨(pre,suf),_⟩=>suf.length) ⟨([],l),rfl,trivial⟩ (.c (.c (.c .n))) (Ag (h:=(Ag (h:=(Ag (he:=(by have e:=hA.trans (Rv ‹_›);injection e with e1 e2;injection e2 with e2 e3;subst e1 e2 e3;rfl)) (h:=(Ag))))))) (Ae (h:=(Ae))) ?_)))))));rintro ⟨⟨pre,suf⟩,hp,hinv⟩ R0 hR0;dsimp only [cA,nA,lC,lN]
  simp only at hp hinv
  have hpl:=BO hp
  rcases suf with _ | ⟨s,suf⟩
  ·rw [List.append_nil] at hp;simp only [lN] at hpl;refine Aj (Ab fun _ z=>Y Aa (Y Aa (Y (A5 am_el380) (Y As (Ac z (Az (fun c2=>?_) (fun c2=>?_)))))))
   ·omega
   refine AA (hR0 _ _ (Ab fun _ z=>Y Aa (Y Ad (Ac z (Av (Wk.frz 6 [_,_,_]) (Ai (Ap ?_)))))));rw [← hp]
  obtain ⟨sx,sy,sz⟩:=s;simp only [lC] at hpl;have hidx:=BM hp;have hn1:=hnl (sx,sy,sz) (by rw [← hp];simp)
  have hsp:Bl (sx,sy,sz) 10000000:=by unfold Cq at hn1;unfold Bl;omega
  have hib:=SB (x:=r.tx) (y:=r.ty) hn1;have hml:(pre.map fun p=>C8 (a1,a2,a3) (Ei r.tx r.ty p)).length=pre.length:=List.length_map _;refine Aj (Ab fun _ z=>Y Aa (Y Aa (Y (A5 am_el380) (Y As (Ac z (Az (fun c3=>?_) (fun c3=>?_)))))))
  ·refine Am (Aj (Ev.block (CP (tbs [(0,0),(0,0),(0,0),(3,4),(0,0),(0,0),(6,48),(7,112),(8,252),(9,510),(10,1022),(11,2047),(12,4095)]) 11 fun _ z=>Ak Aa (Ak (A6 _ am_ag56 am_cl56) (Ak (An 1 am_fi194_1 am_cl192) (Ak (A6 _ am_ag192 am_cl192) (Ak Aa (Ak Aa (Ak (AQ am_el380 am_cl56 (hl:=(by exact Ba hidx (by omega)))) (Ak (Bv _ am_ag56 am_cl56) (Cc (hF:=LX r.tx r.ty (sx,sy,sz) ht hsp) (h:=Cc (hF:=GU (a1,a2,a3) (Ei r.tx r.ty (sx,sy,sz)) (C6 hab (by omega)) (C6 hib (by omega))) (h:=FQ [_] (Bf [[_,_,_]] true am_el380 am_ze56 am_cl56) (h:=B3 [_,_,_,_,_] (h:=AW [_,_,_,_] am_el380 am_ze56 am_cl56 am_by56 (hh:=A3) (hr:=(A7 [(C8 (a1,a2,a3) (Ei r.tx r.ty (sx,sy,sz)))])) (h:=Y Ad (Ac z ?_)))))))))))))))));show Ev _ _ _ _;refine Ah fun _ z=>Y Aa (Y Ax (Y Ad (Ac z (hR0 _ _ (A4 [0,1,2,48] [4,7,8] ⟨(pre ++ [(sx,sy,sz)],suf),Bu hp,trivial⟩ B9 (Ag (h:=(Ag (h:=(Ag (h:=(Ag (he:=(by simp))))))))) (Ae (he:=(by congr 2;simp)) (h:=(Ae (he:=(by congr 1;simp))))) (.c (.c (.c .n))))))));skip
  omega
 refine Am (Ab fun _ z=>Y Ad (Ac z (Aj (Ab fun _ z=>Y Ad (Ac z (Ev.block (Av (Wk.nown pntC 9 56 3) (AC (ι:={p:List ((Int × Int × Int)) × List ((Int × Int × Int)) // p.1 ++ p.2=l∧True}) [0,1,2,3] [4,7,8] (fun ⟨(pre,suf),_⟩=>[(10,iL (pre.length:Int)),(9, .als 3 0 (pre.map fun p=>C8 (a1,a2,a3) (Ei r.tx r.ty p)).length)]) (fun ⟨(pre,suf),_⟩=>[(0,⟨false,168,5,[[sL (b.mark),iL (b.size),iL (b.count),iL (b.code), .sh 1 ((b.dims).map AD)]],true⟩),(1,⟨false,194,10,[[sL (r.mark),iL (r.tx),iL (r.ty),iL (r.ax),iL (r.ay),iL (r.az),iL (r.sx),iL (r.sy),iL (r.sz),iL (r.n)]],true⟩),(2,⟨false,56,3,[[iL (a1),iL (a2),iL (a3)]],true⟩),(3,⟨true,56,3,(pre.map fun p=>C8 (a1,a2,a3) (Ei r.tx r.ty p)).map pntC,true⟩)]) (fun ⟨(pre,suf),_⟩=>suf.length) ⟨([],l),rfl,trivial⟩ (.c (.c (.c .n))) (Ag (h:=(Ag (h:=(Ag (he:=(by have e:=hA.trans (Ru ‹_›);injection e with e1 e2;injection e2 with e2 e3;subst e1 e2 e3;rfl)) (h:=(Ag))))))) (Ae (h:=(Ae))) ?_))))))));rintro ⟨⟨pre,suf⟩,hp,hinv⟩ R0 hR0;dsimp only [cA,nA,lC,lN]
 simp only at hp hinv
 have hpl:=BO hp
 rcases suf with _ | ⟨s,suf⟩
 ·rw [List.append_nil] at hp;simp only [lN] at hpl;refine Aj (Ab fun _ z=>Y Aa (Y Aa (Y (A5 am_el380) (Y As (Ac z (Az (fun c4=>?_) (fun c4=>?_)))))))
  ·omega
  refine AA (hR0 _ _ (Ab fun _ z=>Y Aa (Y Ad (Ac z (Av (Wk.frz 6 [_,_,_]) (Ai (Ap ?_)))))));rw [← hp]
 obtain ⟨sx,sy,sz⟩:=s;simp only [lC] at hpl;have hidx:=BM hp;have hn1:=hnl (sx,sy,sz) (by rw [← hp];simp)
 have hsp:Bl (sx,sy,sz) 10000000:=by unfold Cq at hn1;unfold Bl;omega
 have hib:=SB (x:=r.tx) (y:=r.ty) hn1;have hml:(pre.map fun p=>C8 (a1,a2,a3) (Ei r.tx r.ty p)).length=pre.length:=List.length_map _;refine Aj (Ab fun _ z=>Y Aa (Y Aa (Y (A5 am_el380) (Y As (Ac z (Az (fun c5=>?_) (fun c5=>?_)))))))
 ·refine Am (Aj (Ev.block (CP (tbs [(0,0),(0,0),(0,0),(3,4),(0,0),(0,0),(6,48),(7,112),(8,252),(9,510),(10,1022),(11,2047),(12,4095)]) 11 fun _ z=>Ak Aa (Ak (A6 _ am_ag56 am_cl56) (Ak (An 1 am_fi194_1 am_cl192) (Ak (A6 _ am_ag192 am_cl192) (Ak Aa (Ak Aa (Ak (AQ am_el380 am_cl56 (hl:=(by exact Ba hidx (by omega)))) (Ak (Bv _ am_ag56 am_cl56) (Cc (hF:=LX r.tx r.ty (sx,sy,sz) ht hsp) (h:=Cc (hF:=GU (a1,a2,a3) (Ei r.tx r.ty (sx,sy,sz)) (C6 hab (by omega)) (C6 hib (by omega))) (h:=FQ [_] (Bf [[_,_,_]] true am_el380 am_ze56 am_cl56) (h:=B3 [_,_,_,_,_] (h:=AW [_,_,_,_] am_el380 am_ze56 am_cl56 am_by56 (hh:=A3) (hr:=(A7 [(C8 (a1,a2,a3) (Ei r.tx r.ty (sx,sy,sz)))])) (h:=Y Ad (Ac z ?_)))))))))))))))));show Ev _ _ _ _;refine Ah fun _ z=>Y Aa (Y Ax (Y Ad (Ac z (hR0 _ _ (A4 [0,1,2,48] [4,7,8] ⟨(pre ++ [(sx,sy,sz)],suf),Bu hp,trivial⟩ B9 (Ag (h:=(Ag (h:=(Ag (h:=(Ag (he:=(by simp))))))))) (Ae (he:=(by congr 2;simp)) (h:=(Ae (he:=(by congr 1;simp))))) (.c (.c (.c .n))))))));skip
 omega
theorem N3 {bars:List Bar} {r:Rn} (hok:BU (Cy bars r.mark)) (ht:Ch r.tx r.ty):B6 bars r=(Du (Cy bars r.mark)).map fun p=>C8 (0,0,0) (Ei r.tx r.ty p):=by
 have hs:Ia (Cy bars r.mark)=Du (Cy bars r.mark):=if_pos hok;have hl:=Li (Cy bars r.mark);rw [B6,hs];rw [hs] at hl;exact (Ue ht (by omega) ⟨by decide,Nl hok⟩).2
theorem Vu {r:Rn} {k:Int} (hk:0≤k) (q:P3):DG r k (C8 (0,0,0) q)=C8 (Qy r k) q:=by
 obtain ⟨a,b,c⟩:=q
 by_cases h:k > 0
 ·rw [M9 h,Rv h]
  unfold D6 C8 Rn.at Rn.st
  dsimp only
  rw [Int.mul_comm r.sx k,Int.mul_comm r.sy k,Int.mul_comm r.sz k]
  refine Prod.ext ?_ (Prod.ext ?_ ?_) <;> dsimp only <;> omega
 rw [IC h,Ru h]
 unfold D6 C8 Rn.at
 dsimp only
 refine Prod.ext ?_ (Prod.ext ?_ ?_) <;> dsimp only <;> omega
theorem Jo {bars:List Bar} {r:Rn} {k:Int} (hk:0≤k) (hok:BU (Cy bars r.mark)) (ht:Ch r.tx r.ty):(∀ p ∈ B6 bars r,Bl (DG r k p) 1048576)↔DV (Hi (Cy bars r.mark) r k):=by
 rw [N3 hok ht,Hi,Nn hok]
 constructor
 ·intro h p hp;obtain ⟨q,hq,rfl⟩:=List.mem_map.1 hp;have:=h _ (List.mem_map.2 ⟨q,hq,rfl⟩);rw [Vu hk] at this;exact this
 intro h p hp;obtain ⟨q,hq,rfl⟩:=List.mem_map.1 hp;rw [Vu hk];exact h _ (List.mem_map.2 ⟨q,hq,rfl⟩)
theorem UT (bars:List Bar) (r:Rn) (hs:CY bars):Fun Tryz.prog 156 [.sh 5 (bars.map Bar.c), .agg r.c] (AI (bL (decide (Dv bars r))) []):=by
 have hmb:=HU bars r.mark;have hl60:=hs.1;refine Fun.of (nt:=68) (rs:=[.tmp 4]) Tryz.func156 rfl rfl rfl rfl rfl (Ab fun _ z=>Aq (Bo _ true) (Y Ad (Ac z (Ab fun _ z=>Y Aa (Y (An 0 am_fi194_0 am_cl9) (Y (Ao am_ag9) (Ay (hF:=Nv bars r.mark (by omega)) (h:=Y Ad (Ac z (Aj (Ab fun _ z=>Y Aa (Y As (AS Aa (fun c1=>?_) (fun c1=>?_))))))))))))))
 ·refine Au (Au (Y AF (Y Aa (Au (Bq (Y AF (Y Aa (Au (Bq (Y AF (Y Aa (Au (Au (Y AF (Ac z (BI (Ab fun _ z=>Y Ad (Ac z (Ai (Ap ?_))))))))))))))))))));exact bF (fun h=>by have h1:=h.1;omega)
 refine Y (An 1 am_fi194_1 am_cl192) (Y (A6 _ am_ag192 am_cl192) (Ay (hF:=Tr r.tx r.ty) (h:=Y Bw (Y AE (Dc Aa (fun c2=>?_) (fun c2=>?_))))))
 ·refine Au (Bq (Y AF (Y Aa (Au (Bq (Y AF (Y Aa (Au (Au (Y AF (Ac z (BI (Ab fun _ z=>Y Ad (Ac z (Ai (Ap ?_))))))))))))))));exact bF (fun h=>absurd h.2.1 ‹¬ Ch r.tx r.ty›)
 refine Y (An 9 am_fi194_4 am_cl3) (Y (Ao am_ag3) (Y As (Y AE (AS Aa (fun c3=>?_) (fun c3=>?_)))))
 ·refine Au (Bq (Y AF (Y Aa (Au (Au (Y AF (Ac z (BI (Ab fun _ z=>Y Ad (Ac z (Ai (Ap ?_))))))))))));exact bF (fun h=>by have h1:=h.2.2.1;omega)
 refine Y (An 9 am_fi194_4 am_cl3) (Y (Ao am_ag3) (Y Be (Y AE (AS Aa (fun c4=>?_) (fun c4=>?_)))))
 ·refine Au (Au (Y AF (Ac z (BI (Ab fun _ z=>Y Ad (Ac z (Ai (Ap ?_))))))));exact bF (fun h=>by have h1:=h.2.2.1;omega)
 refine Y (An 3 am_fi194_2 am_cl56) (Y (A6 _ am_ag56 am_cl56) (Ay (hF:=Nw r.at) (h:=Y Bw (Y AE (Ac z (Bh (fun c5=>?_) (fun c5=>?_)))))))
 ·refine Ab fun _ z=>Y Ad (Ac z (Ai (Ap ?_)));exact bF (fun h=>absurd h.2.2.2.1 ‹¬ Cq r.at›)
 refine Am (Aj (Ab fun _ z=>Y (An 9 am_fi194_4 am_cl3) (Y (Ao am_ag3) (Y Be (AS Aa (fun c6=>?_) (fun c6=>?_))))))
 ·refine Y (An 6 am_fi194_3 am_cl56) (Y (A6 _ am_ag56 am_cl56) (Y (Bg _ am_ze56 am_pl56) (Y (Th am_eq56 (Qj _ _ _ _ _ _)) (HA Aa (fun c7=>?_) (fun c7=>?_)))))
  ·refine Au (Au (Y AF (Y AF (Ac z (BI (Ab fun _ z=>Y Ad (Ac z (Ai (Ap ?_)))))))));exact bF (fun h=>by have h1:=(h.2.2.2.2.1 (by omega)).1;simp_all)
  refine Y (An 6 am_fi194_3 am_cl56) (Y (A6 _ am_ag56 am_cl56) (Ay (hF:=T7 r.st) (h:=Y Bw (Y AE (Y AF (Ac z (Bh (fun c8=>?_) (fun c8=>?_))))))))
  ·refine Ab fun _ z=>Y Ad (Ac z (Ai (Ap ?_)));exact bF (fun h=>absurd (h.2.2.2.2.1 (by omega)).2 ‹¬ Bl r.st 2097152›)
  refine Am ?_
  have hmk:0≤CE bars r.mark:=by omega
  have hto:Ch r.tx r.ty:= ‹_›;have hat:Bl r.at 1048576:= ‹Cq r.at›
  have hst:r.n > 1→Bl r.st 2097152:=by exact fun _=> ‹Bl r.st 2097152›
  have hst2:r.n > 1→¬ (r.sx=0∧r.sy=0∧r.sz=0):=by intro _ hz;simp_all
  have hlg:=G0 hmk;have hob:=hs.2.1 _ (G1 hmk);have q0:=Jo (k:=0) (by decide) hob hto;have q1:=Jo (k:=r.n - 1) (by omega) hob hto;obtain ⟨b0,hb0⟩:∃ b,b=Cy bars r.mark:=⟨_,rfl⟩;rw [← hb0] at hlg hob q0 q1
  have hp7:∀ k,(Hi b0 r k).length≤7:=fun k=>by
   have h1:=congrArg List.length (Gp hob).1;rw [List.length_map] at h1;have:=F2 b0;rw [Hi,List.length_map,pathM_len];omega
  have e0:=hp7 0;have e1:=hp7 (r.n - 1);have k0:=GD b0 r 0 hob hto hat (by decide) (fun h=>absurd h (by decide));have k1:=GD b0 r (r.n - 1) hob hto hat (by omega) (fun h=>hst (by omega));refine BW (tbs [(0,0),(0,0),(2,3),(3,7),(0,0),(5,31),(6,63),(7,127),(8,255),(8,255),(10,1023),(11,2047),(8,255),(8,255),(14,8447),(15,24831),(16,65535),(17,131071),(18,262143),(19,524287)]) 19 fun _ z=>Ak Aa (Ak Aa (Ak (AQ am_el22 am_cl168 (hl:=(by exact Ba hlg (by omega)))) (Ak (Bv _ am_ag168 am_cl168) (Ak (A6 _ am_ag194 am_cl194) (Cc (hF:=k0) (h:=Cc (hF:=Hz (Hi b0 r 0) (by omega)) (h:=Mq Aa (fun c9=>?_) (fun c9=>?_))))))))
  ·refine Ak Aa (Ak Aa (Ak (AQ am_el22 am_cl168 (hl:=(by exact Ba hlg (by omega)))) (Ak (Bv _ am_ag168 am_cl168) (Ak (A6 _ am_ag194 am_cl194) (Ak (An 9 am_fi194_4 am_cl3) (Ak (Ao am_ag3) (Ak BK (Cc (hF:=k1) (h:=Cc (hF:=Hz (Hi b0 r (r.n - 1)) (by omega)) (h:=Ak AF (B3 [_] (h:=Y Ad (Ac z (Ai (Ap ?_)))))))))))))));exact dI ⟨fun h=>⟨hmk,hto,by omega,hat,fun h=>⟨hst2 h,hst h⟩,q0.2 ‹_›,q1.2 h⟩,fun h=>q1.1 h.2.2.2.2.2.2⟩
  refine Bm (Bm (Bm (Bm (Bm (Bm (Bm (Bm (Bm (Bm (Ak AE (B3 [_] (h:=Y Ad (Ac z (Ai (Ap ?_)))))))))))))));exact bF (fun h=>absurd (q0.1 h.2.2.2.2.2.1) ‹_›)
 refine Au (Au (Au (Au (Au (Y AE (Ac z (Cw (Am ?_))))))))
 have hmk:0≤CE bars r.mark:=by omega
 have hto:Ch r.tx r.ty:= ‹_›;have hat:Bl r.at 1048576:= ‹Cq r.at›
 have hst:r.n > 1→Bl r.st 2097152:=by exact fun h=>absurd h (by omega)
 have hst2:r.n > 1→¬ (r.sx=0∧r.sy=0∧r.sz=0):=by exact fun h=>absurd h (by omega)
 have hlg:=G0 hmk;have hob:=hs.2.1 _ (G1 hmk);have q0:=Jo (k:=0) (by decide) hob hto;have q1:=Jo (k:=r.n - 1) (by omega) hob hto;obtain ⟨b0,hb0⟩:∃ b,b=Cy bars r.mark:=⟨_,rfl⟩;rw [← hb0] at hlg hob q0 q1
 have hp7:∀ k,(Hi b0 r k).length≤7:=fun k=>by
  have h1:=congrArg List.length (Gp hob).1;rw [List.length_map] at h1;have:=F2 b0;rw [Hi,List.length_map,pathM_len];omega
 have e0:=hp7 0;have e1:=hp7 (r.n - 1);have k0:=GD b0 r 0 hob hto hat (by decide) (fun h=>absurd h (by decide));have k1:=GD b0 r (r.n - 1) hob hto hat (by omega) (fun h=>hst (by omega));refine BW (tbs [(0,0),(0,0),(2,3),(3,7),(0,0),(5,31),(6,63),(7,127),(8,255),(8,255),(10,1023),(11,2047),(8,255),(8,255),(14,8447),(15,24831),(16,65535),(17,131071),(18,262143),(19,524287)]) 19 fun _ z=>Ak Aa (Ak Aa (Ak (AQ am_el22 am_cl168 (hl:=(by exact Ba hlg (by omega)))) (Ak (Bv _ am_ag168 am_cl168) (Ak (A6 _ am_ag194 am_cl194) (Cc (hF:=k0) (h:=Cc (hF:=Hz (Hi b0 r 0) (by omega)) (h:=Mq Aa (fun c10=>?_) (fun c10=>?_))))))))
 ·refine Ak Aa (Ak Aa (Ak (AQ am_el22 am_cl168 (hl:=(by exact Ba hlg (by omega)))) (Ak (Bv _ am_ag168 am_cl168) (Ak (A6 _ am_ag194 am_cl194) (Ak (An 9 am_fi194_4 am_cl3) (Ak (Ao am_ag3) (Ak BK (Cc (hF:=k1) (h:=Cc (hF:=Hz (Hi b0 r (r.n - 1)) (by omega)) (h:=Ak AF (B3 [_] (h:=Y Ad (Ac z (Ai (Ap ?_)))))))))))))));exact dI ⟨fun h=>⟨hmk,hto,by omega,hat,fun h=>⟨hst2 h,hst h⟩,q0.2 ‹_›,q1.2 h⟩,fun h=>q1.1 h.2.2.2.2.2.2⟩
 refine Bm (Bm (Bm (Bm (Bm (Bm (Bm (Bm (Bm (Bm (Ak AE (B3 [_] (h:=Y Ad (Ac z (Ai (Ap ?_)))))))))))))));exact bF (fun h=>absurd (q0.1 h.2.2.2.2.2.1) ‹_›)
theorem MB (bars:List Bar) (runs:List Rn) (hlen:bars.length≤140737488355328) (hw:Ce bars) (hrl:runs.length≤140737488355328):Fun Tryz.prog 53 [.sh 5 (bars.map Bar.c), .sh 10 (runs.map Rn.c)] (AI (bL (decide (BV bars runs))) []):=by
 refine Fun.of (nt:=30) (rs:=[.tmp 4]) Tryz.func53 rfl rfl rfl rfl rfl (Ab fun _ k=>Y Ad (Ac k (Aj (Ab fun _ k=>Y Aa (Ay (hF:=LZ bars hlen hw) (h:=Y Bw (Dc Aa (fun c1=>?_) (fun c1=>?_))))))))
 ·refine Au (Bq (Y AF (Ac k (BI (Ab fun _ k=>Y Ad (Ac k (Ai (Ap ?_))))))));exact bF (fun h=>absurd h.1 ‹¬ CY bars›)
 refine Y Aa (Y (A5 am_el23) (Y Be (Y AE (Ac k (Az (fun c2=>?_) (fun c2=>?_))))))
 ·refine Ab fun _ k=>Y Ad (Ac k (Ai (Ap ?_)));exact bF (fun h=>by have h1:=h.2.1;omega)
 refine Am (Aj ?_);have hok:CY bars:= ‹_›;refine Ab fun _ k=>Y Ad (Ac k (Ev.block (AC (ι:={q:List Rn × List Rn // q.1 ++ q.2=runs∧∀ r ∈ q.1,Dv bars r}) [] [0,1] (fun ⟨(pre,suf),_⟩=>[(5,iL (pre.length:Int))]) (fun ⟨(pre,suf),_⟩=>[]) (fun ⟨(pre,suf),_⟩=>suf.length) ⟨([],runs),rfl,fun x hx=>by simp at hx⟩ (.c (.c .n)) AN (Ae) ?_)));rintro ⟨⟨pre,suf⟩,hp,hinv⟩ R0 hR0;dsimp only [cA,nA,lC,lN]
 simp only at hp hinv
 have hpl:=BO hp
 rcases suf with _ | ⟨s,suf⟩
 ·rw [List.append_nil] at hp;simp only [lN] at hpl;refine Aj (Ab fun _ k=>Y Aa (Y Aa (Y (A5 am_el23) (Y As (Ac k (Az (fun c3=>?_) (fun c3=>?_)))))))
  ·omega
  refine AA (hR0 _ _ ?_)
  have hall:∀ r ∈ runs,Dv bars r:=by rw [← hp];exact hinv
  refine Ab fun _ k=>Y Aa (Ay (hF:=RC runs (by omega) (fun r hr=>(hall r hr).2.2.1)) (h:=Y Cb (Y Ad (Ac k (Ai (Ap ?_))))));exact dI ⟨fun h=>⟨hok,by omega,hall,h⟩,fun h=>h.2.2.2⟩
 simp only [lC] at hpl;have hidx:=BM hp;have hms:=Gn hp;refine Aj (Ab fun _ k=>Y Aa (Y Aa (Y (A5 am_el23) (Y As (Ac k (Az (fun c4=>?_) (fun c4=>?_)))))))
 ·refine Am (Aj (Ev.block (Ab fun _ k=>Y Aa (Y Aa (Y Aa (Y (AQ am_el23 am_cl194 (hl:=(by exact Ba hidx (by omega)))) (Y (Bv _ am_ag194 am_cl194) (Ay (hF:=UT bars s hok) (h:=Y Bw (Ac k (Bh (fun c5=>?_) (fun c5=>?_))))))))))))
  ·refine Ab fun _ k=>Y Ad (Ac k (Ai (hR0 _ _ (Ap ?_))));exact bF (fun h=>absurd (h.2.2.1 s hms) ‹_›)
  refine Am (Ah fun _ k=>Y Aa (Y Ax (Y Ad (Ac k (hR0 _ _ (A4 [] [0,1] ⟨(pre ++ [s],suf),Bu hp,?_⟩ B9 AN (Ae (he:=(by congr 2;simp))) (.c (.c .n))))))))
  intro x hx;simp only [List.mem_append,List.mem_singleton] at hx;rcases hx with hx | rfl
  ·exact hinv x hx
  ·assumption
 omega
def Kw (bars:List Bar) (r:Rn) (k:Int):List P3:=(B6 bars r).map (DG r k)
def IQ (bars:List Bar) (r:Rn):List (List P3):=(List.range r.n.toNat).map fun (k:Nat)=>Kw bars r (k:Int)
def CZ (bars:List Bar) (runs:List Rn):List (List P3):=runs.flatMap (IQ bars)
def DU (runs:List Rn):List (List UInt8):=runs.flatMap fun r=>List.replicate r.n.toNat r.mark
abbrev YP:=Int × List P3 × Value
theorem F4 {bars:List Bar}:∀ {runs:List Rn},(∀ r ∈ runs,1≤r.n)→((CZ bars runs).length:Int)=AR runs
 |[],_=>rfl
 |r :: l,h=>by
  have h1:=h r (by simp);have h2:=F4 (bars:=bars) (runs:=l) fun x hx=>h x (by simp [hx]);simp only [CZ,AR,List.flatMap_cons,List.length_append,List.map_cons,List.sum_cons,IQ,List.length_map,List.length_range] at *;omega
theorem marksL_len:∀ {runs:List Rn},(∀ r ∈ runs,1≤r.n)→((DU runs).length:Int)=AR runs
 |[],_=>rfl
 |r :: l,h=>by
  have h1:=h r (by simp);have h2:=marksL_len (runs:=l) fun x hx=>h x (by simp [hx]);simp only [DU,AR,List.flatMap_cons,List.length_append,List.map_cons,List.sum_cons,List.length_replicate] at *;omega
theorem UC {bars:List Bar} {pre suf runs:List Rn} {s:Rn} (hp:pre ++ s :: suf=runs) (h:∀ r ∈ runs,1≤r.n) {n k:Nat} (hn:(n:Int)=AR pre+k) (hk:(k:Int) < s.n):(CZ bars runs)[n]?= some (Kw bars s (k:Int)):=by
 have h1:=F4 (bars:=bars) (runs:=pre) fun x hx=>h x (by rw [← hp];simp [hx])
 have e:CZ bars runs=CZ bars pre ++ (IQ bars s ++ CZ bars suf):=by rw [← hp];simp [CZ]
 have hl:(IQ bars s).length=s.n.toNat:=by simp [IQ]
 rw [e,List.getElem?_append_right (by omega),show n - (CZ bars pre).length=k by omega,List.getElem?_append_left (by omega)]
 have hk2:k < s.n.toNat:=by omega
 simp [IQ,hk2]
theorem Ut {pre suf runs:List Rn} {s:Rn} (hp:pre ++ s :: suf=runs) (h:∀ r ∈ runs,1≤r.n) {n:Nat} (hn:AR pre≤n) (hk:(n:Int) - AR pre < s.n):(DU runs)[n]?= some s.mark:=by
 have h1:=marksL_len (runs:=pre) fun x hx=>h x (by rw [← hp];simp [hx])
 have e:DU runs=DU pre ++ (List.replicate s.n.toNat s.mark ++ DU suf):=by rw [← hp];simp [DU]
 have hl:(List.replicate s.n.toNat s.mark).length=s.n.toNat:=by simp
 rw [e,List.getElem?_append_right (by omega),List.getElem?_append_left (by omega),List.getElem?_replicate,if_pos (by omega)]
theorem Qx {r:Rn} {k:Int} {pre suf:List P3} {a v:P3} (hv:DG r k a=v):(pre.map (DG r k) ++ (a :: suf).map (fun _=>((0,0,0):P3))).set ((pre.length:Nat):Int).toNat v=(pre ++ [a]).map (DG r k) ++ suf.map (fun _=>(0,0,0)):=by
 subst hv;rw [Int.toNat_natCast,List.set_append_right _ _ (by simp)]
 simp
theorem Tx {T:Type} {L:List T} {v:T} {n:Nat} (h:n < L.length):(L.set ((n:Nat):Int).toNat v)[n]?= some v:=by
 rw [Int.toNat_natCast]
 simp [h]
theorem W5 {r:Rn} {k:Int} {pre suf:List P3} {a:P3}:(pre.map (DG r k) ++ (a :: suf).map (fun _=>((0,0,0):P3)))[pre.length]?= some (0,0,0):=by
 rw [List.getElem?_append_right (by simp)]
 simp
theorem Wi {l:List P3} {n:Nat} (h:n=l.length):(List.replicate n ((0,0,0):P3))=([]:List P3) ++ l.map (fun _=>(0,0,0)):=by
 subst h
 simp [List.map_const']
theorem YQ (l:List P3):∀ q ∈ l.map pntC,litL q=true:=fun q hq=>by
 obtain ⟨⟨a,b,c⟩,_,rfl⟩:=List.mem_map.1 hq;rfl
theorem DL (bars:List Bar) (runs:List Rn) (hok:BV bars runs) (hw:Ce bars) (hrw:Dw runs):Fun Tryz.prog 41 [.sh 5 (bars.map Bar.c), .sh 10 (runs.map Rn.c)] (AI (.tup [iL (AR runs),iL 0]) []):=by
 obtain ⟨⟨hb60,_⟩,hr60,hrr,hc2⟩:=id hok
 have hlen:bars.length≤140737488355328:=by omega
 have hrl:runs.length≤140737488355328:=by omega
 have hn1:∀ r ∈ runs,1≤r.n:=fun r hr=>(hrr r hr).2.2.1.1;refine Fun.of (nt:=25) (rs:=[.tmp 4, .tmp 5]) Tryz.func41 rfl rfl rfl rfl rfl ?_;refine Ab fun _ z=>Y Ad (Y Ad (Ac z ?_));refine Aj (Ab fun _ z=>Y Aa (Y Aa (Ay (hF:=Hd bars runs hlen hw hrl hrw) (h:=Y Bw (Ac z ?_)))));refine Bh (fun c1=>?_) (fun c1=>?_)
 ·contradiction
 refine Am (Ab fun _ z=>Y Ad (Ac z ?_));refine Aj (Ab fun _ z=>Y Aa (Y (A5 am_el23) (Y Aa (Ac z ?_))));refine Ev.block (AC (ι:={p:List (Rn) × List (Rn) // p.1 ++ p.2=runs∧True}) [] [13,14] (fun ⟨(pre,suf),_⟩=>[(15,iL (pre.length:Int)),(6,iL (AR pre))]) (fun ⟨(pre,suf),_⟩=>[]) (fun ⟨(pre,suf),_⟩=>suf.length) ⟨([],runs),rfl,trivial⟩ (.c (.c .n)) AN (Ae (h:=(Ae))) ?_);rintro ⟨⟨pre,suf⟩,hp,hinv⟩ R0 hR0;dsimp only [cA,nA,lC,lN]
 simp only at hp hinv
 have hpl:=BO hp
 rcases suf with _ | ⟨s,suf⟩
 ·rw [List.append_nil] at hp;simp only [lN] at hpl;refine Ab fun _ z=>Y As (Ac z ?_);refine AG (fun c2=>?_) (fun c2=>?_)
  ·omega
  refine AA (hR0 _ _ (Ab fun _ z=>Y Aa (Y Ad (Y Ad (Ac z ?_)))));refine Ai (Cd ?_);rw [← hp]
 simp only [lC] at hpl;have hidx:=BM hp;obtain ⟨hcc,hcs⟩:=Kq hp hn1;have hpn:=D4 (l:=pre) (fun r hr=>hn1 r (by rw [← hp];simp [hr]));have hsn:=hn1 s (by rw [← hp];simp);refine Ab fun _ z=>Y As (Ac z ?_);refine AG (fun c3=>?_) (fun c3=>?_)
 ·refine Aj (Ev.block (Ab fun _ z=>Y (AQ am_el23 am_cl194 (hl:=(by exact Ba hidx (by omega)))) (Y (Bv _ am_ag194 am_cl194) (Aq (AT am_ze194) (Ar _ true [] am_in194 am_cl194 (h:=Ac z ?_))))));refine Ah fun _ z=>Y Aa (Y (An 9 am_fi194_4 am_cl3) (Y (Ao am_ag3) (Y Ax (Y Ad (Ac z ?_)))));show Ev _ _ _ _;refine Ah fun _ z=>Y Ax (Y Aa (Ac z ?_));refine hR0 _ _ (A4 [] [13,14] ⟨(pre ++ [s],suf),Bu hp,trivial⟩ B9 AN (Ae (he:=(by congr 2;simp)) (h:=(Ae (he:=(by exact iE (Ff _ _).symm))))) (.c (.c .n)));skip
 omega
theorem JP (bars:List Bar) (runs:List Rn) (hok:BV bars runs) (hw:Ce bars) (hrw:Dw runs) (i:Nat) (mk:List UInt8) (hm:(DU runs)[i]?= some mk):Fun Tryz.prog 185 [.sh 5 (bars.map Bar.c), .sh 10 (runs.map Rn.c),iL (i:Int)] (AI (.tup [sL mk,iL 0]) []):=by
 obtain ⟨⟨hb60,_⟩,hr60,hrr,hc2⟩:=id hok
 have hlen:bars.length≤140737488355328:=by omega
 have hrl:runs.length≤140737488355328:=by omega
 have hn1:∀ r ∈ runs,1≤r.n:=fun r hr=>(hrr r hr).2.2.1.1;have hml:=marksL_len hn1;have hil:i < (DU runs).length:=(List.getElem?_eq_some_iff.1 hm).1;refine Fun.of (nt:=33) (rs:=[.tmp 6, .tmp 7]) Tryz.func185 rfl rfl rfl rfl rfl ?_;refine Ab fun _ z=>Y Ad (Y Ad (Ac z ?_));refine Aj (Ab fun _ z=>Y Aa (Y Aa (Ay (hF:=Hd bars runs hlen hw hrl hrw) (h:=Y Bw (Ac z ?_)))));refine Bh (fun c1=>?_) (fun c1=>?_)
 ·contradiction
 refine Am (Aj (Ab fun _ z=>Y Aa (Y As (Ac z ?_))));refine Az (fun c2=>?_) (fun c2=>?_)
 ·omega
 refine Am (Aj (Ab fun _ z=>Y Aa (Y (A5 am_el23) (Y Aa (Ac z ?_)))));refine Ev.block (AC (ι:={q:List Rn × List Rn // q.1 ++ q.2=runs∧AR q.1≤(i:Int)}) [] [16,17] (fun ⟨(pre,suf),_⟩=>[(18,iL (pre.length:Int)),(2,iL ((i:Int) - AR pre))]) (fun ⟨(pre,suf),_⟩=>[]) (fun ⟨(pre,suf),_⟩=>suf.length) ⟨([],runs),rfl,(by show (0:Int)≤(i:Int);omega)⟩ (.c (.c .n)) AN (Ae (h:=(Ae))) ?_);rintro ⟨⟨pre,suf⟩,hp,hci⟩ R0 hR0;dsimp only [cA,nA,lC,lN]
 simp only at hp hci
 have hpl:pre.length+suf.length=runs.length:=by rw [← hp,List.length_append]
 rcases suf with _ | ⟨s,suf⟩
 ·rw [List.append_nil] at hp;simp only [lN] at hpl;refine Ab fun _ z=>Y As (Ac z ?_);refine AG (fun c3=>?_) (fun c3=>?_)
  ·omega
  refine AA (hR0 _ _ (Ab fun _ z=>Y Ad (Y Ad (Ac z ?_))));refine Ai (Cd ?_)
  exfalso;rw [hp] at hci;omega
 simp only [lC] at hpl;have hidx:=BM hp;obtain ⟨hcc,hcs⟩:=Kq hp hn1;have hpn:=D4 (l:=pre) (fun r hr=>hn1 r (by rw [← hp];simp [hr]));have hsn:=hn1 s (by rw [← hp];simp);have hcn:=Ff pre s;refine Ab fun _ z=>Y As (Ac z ?_);refine AG (fun c4=>?_) (fun c4=>?_)
 ·refine Aj (Ev.block (Ab fun _ z=>Y (AQ am_el23 am_cl194 (hl:=(by exact Ba hidx (by omega)))) (Y (Bv _ am_ag194 am_cl194) (Aq (AT am_ze194) (Ar _ true [] am_in194 am_cl194 (h:=Ac z ?_))))));refine Aj (Ab fun _ z=>Y Aa (Y (An 9 am_fi194_4 am_cl3) (Y (Ao am_ag3) (Y As (Ac z ?_)))));refine Az (fun c5=>?_) (fun c5=>?_)
  ·refine Ab fun _ z=>Y (An 0 am_fi194_0 am_cl9) (Y (Ao am_ag9) (Y Ad (Y Ad (Ac z ?_))));refine Ai (hR0 _ _ (Cd ?_));have h1:=Ut hp hn1 (n:=i) (by omega) (by omega);rw [hm] at h1;cases h1;rfl
  refine Am (Ah fun _ z=>Y Aa (Y (An 9 am_fi194_4 am_cl3) (Y (Ao am_ag3) (Y BK (Y Ad (Ac z ?_))))));show Ev _ _ _ _;refine Ah fun _ z=>Y Ax (Y Aa (Ac z ?_));refine hR0 _ _ (A4 [] [16,17] ⟨(pre ++ [s],suf),Bu hp,?_⟩ B9 AN (Ae (he:=(by congr 2;simp)) (h:=(Ae (he:=(by exact iE (by rw [Ff];omega)))))) (.c (.c .n)))
  dsimp only;omega
 omega
theorem PP (bars:List Bar) (runs:List Rn):Fun Tryz.prog 392 [.sh 5 (bars.map Bar.c), .sh 10 (runs.map Rn.c)] (AI (.fn (.func 449) [] [.sadr [.sh 10 (runs.map Rn.c)] 0, .sadr [.sh 5 (bars.map Bar.c)] 0]) []):=by
 refine Fun.of (nt:=6) (rs:=[.tmp 4]) Tryz.func392 rfl rfl rfl rfl rfl ?_;refine Ab fun _ z=>Aq (Bo _ true) (Aq (Bo _ true) (Y Ad (Ac z ?_)));refine Av (Wk.frzv 2 [_]) ?_;refine Av (Wk.frzv 3 []) ?_;refine Ab fun _ z=>Y EE (Y Ad (Ac z ?_));refine Ai (Ap ?_);rfl
def YX (bars:List Bar) (runs:List Rn) (pre:List YP) (x:YP) (Z Z':Nat→Prop) (A:World):Prop:=(x.1=(pre.length:Int)∧(CZ bars runs)[pre.length]?= some x.2.1)∧QE 3 (x.2.1.map pntC) x.2.2 Z Z' A
theorem PQ (bars:List Bar) (runs:List Rn) (hok:BV bars runs) (hw:Ce bars) (hrw:Dw runs):SeqRH Tryz.prog 449 [.sadr [.sh 10 (runs.map Rn.c)] 0, .sadr [.sh 5 (bars.map Bar.c)] 0] [] 0 (fun x:YP=> #[.int .i64 x.1,x.2.2]) (fun xs=>(xs.length:Int)=AR runs) (fun _=>True) (YX bars runs):=by
 obtain ⟨⟨hb60,_⟩,hr60,hrr,hc2⟩:=id hok
 have hlen:bars.length≤140737488355328:=by omega
 have hrl:runs.length≤140737488355328:=by omega
 have hn1:∀ r ∈ runs,1≤r.n:=fun r hr=>(hrr r hr).2.2.1.1;refine SeqRH.of (nt:=66) Tryz.func449 rfl rfl rfl rfl rfl ?_;intro l0 S0 J hRndH;have hRnd:=hRndH.plain;refine CX fun _ z=>Y Ad (Ac z ?_);refine CX fun _ z=>Y (AO am_ag23) (Y (A5 am_el23) (Y Aa (Ac z ?_)));refine EvY.block (If (κ:={q:(List Rn × List Rn) × List YP // q.1.1 ++ q.1.2=runs∧(q.2.length:Int)=AR q.1.1}) (fun p=>(true,p.1.2)) [] [0,2,12,13] (fun ⟨((pre,suf),els),_⟩=>[(14,iL (pre.length:Int)),(4,iL (els.length:Int))]) (fun ⟨((pre,suf),els),_⟩=>[]) (fun ⟨((pre,suf),els),_⟩=>suf.length) ⟨(([],runs),[]),rfl,rfl⟩ (.c (.c (.c (.c .n)))) AN (Ae (h:=(Ae))) rfl ?_);rintro ⟨⟨⟨pre,suf⟩,els⟩,hp,hel⟩ R0 hR0
 try dsimp only [cA,nA,lC,lN]
 simp only at hp hel
 have hpl:pre.length+suf.length=runs.length:=by rw [← hp,List.length_append]
 rcases suf with _ | ⟨s,suf⟩
 ·rw [List.append_nil] at hp;simp only [lN] at hpl;refine CX fun _ z=>Y As (Ac z ?_);refine IH (fun c1=>?_) (fun c1=>?_)
  ·omega
  refine Jb (hR0 _ _ _ ?_);exact ⟨.inl rfl,fun _=>(by rw [hel,hp]),fun h=>by cases h⟩
 simp only [lC] at hpl;have hidx:=BM hp;obtain ⟨hcc,hcs⟩:=Kq hp hn1;have hpn:=D4 (l:=pre) (fun r hr=>hn1 r (by rw [← hp];simp [hr]))
 have hsm:s ∈ runs:=by rw [← hp];simp
 have hsn:=hn1 s hsm;have hrs:=hrr s hsm;have hsa:=hrs.2.2.2.1;have hst:=hrs.2.2.2.2.1;have hsc:=hrs.2.2.1.2;have htl:=IE bars s;refine CX fun _ z=>Y As (Ac z ?_);refine IH (fun c2=>?_) (fun c2=>?_)
 ·refine DK (EvY.block (CX fun _ z=>Y (AQ am_el23 am_cl194 (hl:=(by exact Ba hidx (by omega)))) (Y (Bv _ am_ag194 am_cl194) (Aq (AT am_ze194) (Ar _ true [] am_in194 am_cl194 (h:=Ac z ?_))))));refine Q9 (Wk.frzv 6 []) ?_;refine CX fun _ z=>Y (AO am_ag22) (Y (Bv _ am_ag194 am_cl194) (Ay (hF:=Jw bars s hlen hw hrs.1) (h:=Y Ad (Ac z ?_))));refine CX fun _ z=>Y (BH 9 am_fi194_4 am_cl3) (Y (AO am_ag3) (Y Aa (Ac z ?_)));refine EvY.block (If (κ:={q:Nat × List YP // (q.1:Int)≤s.n∧(q.2.length:Int)=AR pre+q.1}) (fun p=>(true,p.1.2)) [] [0,2,6,7,12,13,14,22] (fun ⟨(k,el2),_⟩=>[(23,iL (k:Int)),(4,iL (el2.length:Int))]) (fun ⟨(k,el2),_⟩=>[]) (fun ⟨(k,el2),_⟩=>(s.n - k).toNat) ⟨(0,els),by dsimp only;omega,by dsimp only;omega⟩ (.c (.c (.c (.c (.c (.c (.c (.c .n)))))))) AN (Ae (h:=(Ae))) rfl ?_);rintro ⟨⟨k,el2⟩,hkn,hel2⟩ R2 hR2
  try dsimp only [cA,nA,lC,lN]
  simp only at hkn hel2
  by_cases hkl:(k:Int) < s.n
  rotate_left
  ·have hke:(k:Int)=s.n:=by omega
   refine CX fun _ z=>Y As (Ac z ?_);refine IH (fun c3=>?_) (fun c3=>?_)
   ·omega
   refine Jb (hR2 _ _ _ (Eo fun _ z=>Y Ax (Y Aa (Ac z ?_))));refine hR0 _ _ _ (IV [] [0,2,12,13] ⟨((pre ++ [s],suf),el2),by rw [← hp];simp,by dsimp only;rw [Ff];omega⟩ B9 AN (Ae (he:=(by congr 2;simp)) (h:=(Ae))) (.c (.c (.c (.c .n)))) rfl);skip
  skip;refine CX fun _ z=>Y As (Ac z ?_);refine IH (fun c4=>?_) (fun c4=>?_)
  ·refine DK (EvY.block (CX fun _ z=>Y Aa (Y Ad (Ac z ?_))));refine CX fun _ z=>Y Aa (Y (A5 am_el380) (Ih (f:=pntC) ((0,0,0)) am_el380 am_ze56 am_cl56 am_by56 (h:=Y Ad (Ac z ?_))));refine DK (CX fun _ z=>Y Aa (Y (A5 am_el380) (Y Aa (Ac z ?_))));refine EvY.block (If (κ:={q:List P3 × List P3 // q.1 ++ q.2=B6 bars s}) (fun _=>(true,el2)) [0] [0,2,4,6,7,8,12,13,14,22,23,29,30] (fun ⟨(pre2,suf2),_⟩=>[(31,iL (pre2.length:Int)),(9, .als 0 0 (pre2.map (DG s (k:Int)) ++ suf2.map (fun _=>((0,0,0):P3))).length)]) (fun ⟨(pre2,suf2),_⟩=>[(0,⟨true,56,3,(pre2.map (DG s (k:Int)) ++ suf2.map (fun _=>((0,0,0):P3))).map pntC,true⟩)]) (fun ⟨(pre2,suf2),_⟩=>suf2.length) ⟨([],B6 bars s),rfl⟩ (.c (.c (.c (.c (.c (.c (.c (.c (.c (.c (.c (.c (.c .n))))))))))))) (Ag (he:=(by exact congrArg (List.map pntC) (Wi (by simp;done))))) (Ae (h:=(Ae (he:=(by congr 1;simp))))) rfl ?_);rintro ⟨⟨pre2,suf2⟩,hp2⟩ R4 hR4
   try dsimp only [cA,nA,lC,lN]
   simp only at hp2
   have hpl2:pre2.length+suf2.length=(B6 bars s).length:=by rw [← hp2,List.length_append]
   rcases suf2 with _ | ⟨s2,suf2⟩
   ·rw [List.append_nil] at hp2;subst hp2;simp only [List.length_nil] at hpl2;refine CX fun _ z=>Y As (Ac z ?_);refine IH (fun c5=>?_) (fun c5=>?_)
    ·omega
    refine Jb (hR4 _ _ _ (DK (Sf hRndH 3 rfl fun _ z=>?_)));simp only [List.take_succ_cons,List.take_zero];refine Y Aa (Y Aa (Y Aa (Ac z ?_)));refine ⟨_,_,_,_,[0,2,4,6,7,8,12,13,14,22,23],_,_,_,_,_,_,_,rfl,rfl,rfl,rfl,⟨_,rfl,by simp⟩,(YQ _),(.c (.c (.c (.c (.c (.c (.c (.c (.c (.c (.c .n))))))))))),by decide,fun v=>⟨((el2.length:Int),(B6 bars s).map (DG s (k:Int)),v),rfl,(fun Z Z' A hg=>⟨⟨rfl,UC hp hn1 hel2 hkl⟩,by simpa using hg⟩),fun bq=>?_⟩⟩;simp only [List.drop_succ_cons,List.drop_zero];refine SeqL.k fun _ z=>?_
    rcases bq with _ | _
    ·skip;refine Y LU (Ac z ?_);refine Sc (Qg (hR2 _ _ _ (hR0 _ _ _ ?_)));exact ⟨.inr rfl,fun h=>(by cases h),fun _=>trivial⟩
    skip;refine Y IT (Ac z ?_);refine Sb (H9 (Eo fun _ z=>Y Aa (Y Ax (Y Ad (Ac z ?_)))));show EvY _ _ _ _ _ _ _;refine Eo fun _ z=>Y Ax (Y Aa (Ac z ?_));refine hR2 _ _ _ (IV [] [0,2,6,7,12,13,14,22] ⟨(k+1,el2 ++ [((el2.length:Int),(B6 bars s).map (DG s (k:Int)),v)]),by dsimp only;omega,by simp only [List.length_append,List.length_singleton];omega⟩ ?_ AN (Ae (h:=(Ae (he:=(by congr 2;simp))))) (.c (.c (.c (.c (.c (.c (.c (.c .n)))))))) rfl);skip;all_goals (dsimp only;omega)
   simp only [lC] at hpl2
   have hidx2:(B6 bars s)[pre2.length]?= some s2:=by rw [← hp2];simp
   have hms:s2 ∈ B6 bars s:=by rw [← hp2];simp
   obtain ⟨a,b,c⟩:=s2;have hpb:=GX hms;have hov:=W5 (r:=s) (k:=(k:Int)) (pre:=pre2) (suf:=suf2) (a:=(a,b,c))
   have hol:pre2.length < (pre2.map (DG s (k:Int)) ++ ((a,b,c) :: suf2).map (fun _=>((0,0,0):P3))).length:=by simp
   have holz:=Int.ofNat_lt.2 hol;refine CX fun _ z=>Y As (Ac z ?_);refine IH (fun c6=>?_) (fun c6=>?_)
   ·refine DK (EvY.block (CX fun _ z=>Y Aa (Y (AQ am_el380 am_cl56 (hl:=(by exact Ba hidx2 (by omega)))) (Y (Bv _ am_ag56 am_cl56) (Aq (AT am_ze56) (Y Ad (Ar _ true [_] am_in56 am_cl56 (h:=Ac z ?_))))))));refine CX fun _ z=>Y Aa (Y Aa (Y (A6 _ am_ag56 am_cl56) (Y (BH 3 am_fi194_2 am_cl56) (Y (Bv _ am_ag56 am_cl56) (Ay (hF:=FT (a,b,c) s.at 1 (C6 hpb (by omega)) (C6 hsa (by omega)) (by omega)) (h:=Y (BT am_el380 am_cl56) (DH (⟨_,_,_⟩:Int × Int × Int) [_] am_in56 am_cl56 (hl:=(by exact at_ hov (by omega))) (h:=Ac z ?_))))))));refine CX fun _ z=>Y Aa (Y Be (Ac z ?_));refine Ln (fun c7=>?_) (fun c7=>?_)
    ·refine Ob (tbs [(0,0),(0,0),(0,0),(0,0),(4,12),(5,28),(0,0),(7,64),(0,0),(9,508),(10,1023),(11,2047)]) 11 fun _ z=>Ak Aa (Ak Aa (Ak Aa (Ak Aa (Ak (BT am_el380 am_cl56) (Ak (Yp [_,_,_] am_ag56 am_cl56 (hl:=(by exact at_ (Tx hol) (by omega)))) (Ak (BH 6 am_fi194_3 am_cl56) (Ak (Bv _ am_ag56 am_cl56) (Ak Aa (Cc (hF:=FT (D6 (a,b,c) s.at 1) s.st (k:Int) (Q0 hpb (C6 hsa (by omega)) rfl) (hst (by omega)).2 (by omega)) (h:=Ak (BT am_el380 am_cl56) (B3 [_,_] (h:=DH (⟨_,_,_⟩:Int × Int × Int) [_] am_in56 am_cl56 (hl:=(by exact at_ (Tx hol) (by omega))) (h:=Ac z ?_)))))))))))));show EvY _ _ _ _ _ _ _;refine Eo fun _ z=>Y Ax (Y Aa (Ac z ?_));refine hR4 _ _ _ (IV [0] [0,2,4,6,7,8,12,13,14,22,23,29,30] ⟨(pre2 ++ [(a,b,c)],suf2),by rw [← hp2];simp⟩ B9 (Ag (he:=(by exact congrArg (List.map pntC) ((List.set_set ..).trans (Qx (M9 ‹_›)))))) (Ae (he:=(by congr 2;simp)) (h:=(Ae (he:=(by congr 1;simp))))) (.c (.c (.c (.c (.c (.c (.c (.c (.c (.c (.c (.c (.c .n))))))))))))) rfl);skip
    refine H9 (Eo fun _ z=>Y Ax (Y Aa (Ac z ?_)));refine hR4 _ _ _ (IV [0] [0,2,4,6,7,8,12,13,14,22,23,29,30] ⟨(pre2 ++ [(a,b,c)],suf2),by rw [← hp2];simp⟩ B9 (Ag (he:=(by exact congrArg (List.map pntC) (Qx (IC ‹_›))))) (Ae (he:=(by congr 2;simp)) (h:=(Ae (he:=(by congr 1;simp))))) (.c (.c (.c (.c (.c (.c (.c (.c (.c (.c (.c (.c (.c .n))))))))))))) rfl);skip
   omega
  omega
 omega
def place:List Rn→Nat→Nat × Nat
 |[],i=>(0,i)
 |r :: l,i=>if i < r.n.toNat then (0,i) else ((place l (i - r.n.toNat)).1+1,(place l (i - r.n.toNat)).2)
theorem Oz {T:Type} {l:List T} {k:Nat} {r:T} (h:l[k]?= some r):l.drop k=r :: l.drop (k+1):=by
 obtain ⟨h1,rfl⟩:=List.getElem?_eq_some_iff.1 h;exact List.drop_eq_getElem_cons h1
def Hs (p q:P3):Bx:=⟨min p.1 q.1,min p.2.1 q.2.1,min p.2.2 q.2.2,max p.1 q.1,max p.2.1 q.2.1,max p.2.2 q.2.2⟩
def HY (p:P3):Bx:=⟨p.1,p.2.1,p.2.2,p.1,p.2.1,p.2.2⟩
def GB (l:List P3) (n:Nat):List Bx:=(List.range n).map fun i=>Hs ((l[i]?).getD (0,0,0)) ((l[i+1]?).getD (0,0,0))
theorem Rl (l:List P3) (n:Nat):GB l (n+1)=GB l n ++ [Hs ((l[n]?).getD (0,0,0)) ((l[n+1]?).getD (0,0,0))]:=by simp [GB,List.range_succ]
theorem Nf (l:List P3) (n:Nat):(GB l n).length=n:=by simp [GB]
theorem T9 {l:List P3} {k:Nat} {p q:P3} (h1:1≤k) (hp:l[k - 1]?= some p) (hq:l[k]?= some q):List.take (((k:Int)+1).toNat - ((k:Int) - 1).toNat) (List.drop ((k:Int) - 1).toNat l)=[p,q]:=by
 have e1:((k:Int)+1).toNat - ((k:Int) - 1).toNat=2:=by omega
 have e2:((k:Int) - 1).toNat=k - 1:=by omega
 rw [e1,e2,Oz hp,show k - 1+1=k by omega,Oz hq];rfl
theorem Rd (p q:P3):L6 [HY p,HY q]=Hs p q:=by
 obtain ⟨a,b,c⟩:=p;obtain ⟨d,e,f⟩:=q
 show Lt (Lt (HY (a,b,c)) (HY (a,b,c))) (HY (d,e,f))=_
 unfold Lt HY Hs
 simp [Int.min_self,Int.max_self]
theorem Tf {p:P3} (h:Bl p 1048576):Cg (HY p):=by
 obtain ⟨a,b,c⟩:=p
 unfold Bl at h
 unfold Cg HY
 dsimp only at *
 omega
theorem Uh {p q:P3} (hp:Bl p 1048576) (hq:Bl q 1048576):Cg (Hs p q):=by
 obtain ⟨a,b,c⟩:=p;obtain ⟨d,e,f⟩:=q
 unfold Bl at hp hq
 unfold Cg Hs
 dsimp only at *
 omega
theorem OE {a s M:Int} {n k:Int} (h0: -M≤a∧a≤M) (h1: -M≤a+(n - 1) * s∧a+(n - 1) * s≤M) (hk0:0≤k) (hk:k < n): -M≤a+k * s∧a+k * s≤M:=by
 rcases Int.le_total 0 s with hs | hs
 ·have h2:=Int.mul_le_mul_of_nonneg_right (show k≤n - 1 by omega) hs;have h3:=Int.mul_nonneg hk0 hs;omega
 have h2:=Int.mul_le_mul_of_nonpos_right (show k≤n - 1 by omega) hs;have h3:=Int.mul_nonneg hk0 (show 0≤ -s by omega);rw [Int.mul_neg] at h3;omega
theorem UB {bars:List Bar} {r:Rn} (h:Dv bars r) {k:Int} (hk0:0≤k) (hk:k < r.n):∀ p ∈ Kw bars r k,Bl p 1048576:=by
 intro p hp;obtain ⟨q,hq,rfl⟩:=List.mem_map.1 hp;have h0:=h.2.2.2.2.2.1 q hq;have h1:=h.2.2.2.2.2.2 q hq;rw [IC (by omega)] at h0
 by_cases hk1:k > 0
 ·rw [M9 hk1];rw [M9 (by omega)] at h1
  unfold Bl D6 at *
  dsimp only at *
  exact ⟨OE h0.1 h1.1 hk0 hk,OE h0.2.1 h1.2.1 hk0 hk,OE h0.2.2 h1.2.2 hk0 hk⟩
 rw [IC hk1];exact h0
theorem Jn {bars:List Bar} {runs:List Rn} {p:List P3} (h:p ∈ CZ bars runs):∃ r ∈ runs,∃ k:Nat,(k:Int) < r.n∧p=Kw bars r (k:Int):=by
 obtain ⟨r,hr,hp⟩:=List.mem_flatMap.1 h;obtain ⟨k,hk,rfl⟩:=List.mem_map.1 hp;rw [List.mem_range] at hk;exact ⟨r,hr,k,by omega,rfl⟩
theorem Qz {bars:List Bar} {runs:List Rn} (h:BV bars runs) {p:List P3} (hp:p ∈ CZ bars runs):∀ q ∈ p,Bl q 1048576:=by
 obtain ⟨r,hr,k,hk,rfl⟩:=Jn hp;exact UB (h.2.2.1 r hr) (by omega) hk
theorem OV {bars:List Bar} {runs:List Rn} {p:List P3} (hp:p ∈ CZ bars runs):p.length≤7:=by
 obtain ⟨r,hr,k,hk,rfl⟩:=Jn hp
 unfold Kw
 rw [List.length_map];exact IE bars r
def BP (p:List P3):List Bx:=GB p (p.length - 1)
theorem Up {p:List P3} (h:∀ q ∈ p,Bl q 1048576):∀ b ∈ BP p,Cg b:=by
 intro b hb;obtain ⟨i,hi,rfl⟩:=List.mem_map.1 hb;rw [List.mem_range] at hi;have e1:p[i]?= some (p[i]'(by omega)):=List.getElem?_eq_getElem _;have e2:p[i+1]?= some (p[i+1]'(by omega)):=List.getElem?_eq_getElem _;rw [e1,e2];exact Uh (h _ (List.getElem_mem _)) (h _ (List.getElem_mem _))
theorem SL (p:List P3):(BP p).length=p.length - 1:=Nf _ _
theorem OB (bars:List Bar) (runs:List Rn) (hok:BV bars runs) (hw:Ce bars) (hrw:Dw runs) (i:Nat) (p:List P3) (hp:(CZ bars runs)[i]?= some p):Fun Tryz.prog 294 [.sh 5 (bars.map Bar.c), .sh 10 (runs.map Rn.c),iL (i:Int)] (AI (.tup [.sh 3 (p.map pntC),iL 0]) []):=by
 obtain ⟨⟨hb60,_⟩,hr60,hrr,hc2⟩:=id hok
 have hlen:bars.length≤140737488355328:=by omega
 have hrl:runs.length≤140737488355328:=by omega
 have hn1:∀ r ∈ runs,1≤r.n:=fun r hr=>(hrr r hr).2.2.1.1;have hml:=F4 (bars:=bars) hn1;have hil:i < (CZ bars runs).length:=(List.getElem?_eq_some_iff.1 hp).1;have hsq:=PQ bars runs hok hw hrw;refine Fun.ofD (nt:=23) (rs:=[.cell 6 380, .cell 7 27]) Tryz.func294 rfl rfl rfl rfl rfl (EvD.split (Ah fun _ z=>Aq (Bo _ true) (Aq (AT am_ze380) (Aq (AT am_ze27) (Ac z ?_)))));show EvD _ _ _ _;refine EvD.split (Ab fun _ z=>Y Aa (Y Aa (Ay (hF:=Hd bars runs hlen hw hrl hrw) (h:=Y Bw (Ac z (Bh (fun c1=>?_) (fun c1=>?_)))))))
 ·contradiction
 refine Am (EvD.seq (EvD.split (Av (Wk.frzv 5 [_,_]) (Ah fun _ z=>Y Aa (Y Aa (Ay (hF:=PP bars runs) (h:=Ac z ?_)))))));show EvD _ _ _ _;refine EvD.block (EvD.weaken (WM [1,2] [5] [(16, .fn (.func 449) [] [.sadr [.sh 10 (runs.map Rn.c)] 0, .sadr [.sh 5 (bars.map Bar.c)] 0]),(6, .adr 0 0 0),(7, .adr 1 0 0)] [(0,⟨false,380,1,[[.lit (.slice none 0 0)]],true⟩),(1,⟨false,27,1,[[iL 0]],true⟩)] (.c .n) (Ag (h:=(Ag))) (Ae (h:=(Ae (h:=(Ae)))))) ?_);dsimp only [cA,nA,lC,lN];refine EvD.range (ps:=[17,18]) (K:=2) [] (fun pre=>pre.length≤i) (fun _=>[(0,⟨false,380,1,[[.lit (.slice none 0 0)]],true⟩),(1,⟨false,27,1,[[iL 0]],true⟩)]) (fun x=>[iL x.1, .sh 3 (x.2.1.map pntC)]) (fun c _ o=>c= .ret∧o=[(0,⟨false,380,1,[[.sh 3 (p.map pntC)]],true⟩),(1,⟨false,27,1,[[iL 0]],true⟩)]) (hsq) rfl rfl rfl (by decide) rfl (fun r q h=>⟨h,by simp⟩) (fun pre r hr=>by rcases r with _ | _ | _ | _ | _ | _ | _ | _ | r <;> first | exact ⟨_,rfl⟩ | omega) ((((stays.nil _).c rfl).c rfl).c rfl) (by decide) (fun _=>rfl) (fun pre x Z Z' A h=>by obtain ⟨_,E0,h1,h2,h3⟩:=h;exact ⟨E0,h1,h2,Yg h3⟩) (Nat.zero_le _) ?_ ?_ ?_ ?_
 ·intro l0 m0 pre x hG hx;obtain ⟨k,pts,vv⟩:=x;obtain ⟨Z,Z',A,⟨hk1,hk2⟩,_⟩:=hx
  dsimp only at hk1 hk2 hG ⊢
  show EvI _ _ _ _ _ _;refine Ge fun _ z=>Y Ad (Ac z (J9 fun _ z=>Y Ad (Ac z (⟨rfl,rfl,?_⟩))));refine EvI.block (Ge fun _ z=>Y Aa (Y (AO am_ag3) (Y Bk (Ac z (Sa (fun c2=>?_) (fun c2=>?_))))))
  ·refine Ge fun _ z=>Y Aa (Ar _ true [_] am_in380 am_cl380 (h:=Ar _ true [_] am_in27 am_cl27 (h:=Ac z (V3 (Yi ?_)))))
   show Fs _ _ _ _ _ _ _ .ret _
   refine UP [0,1] (B5 (h:=(B5 (h:=BZ)))) rfl (by decide) (GM rfl) ?_
   have hki:pre.length=i:=by omega
   rw [hki,hp] at hk2
   cases hk2
   exact ⟨rfl,rfl⟩
  refine KO (Vq ?_)
  show Fs _ _ _ _ _ _ _ .normal _
  refine Pf [0,1] (by show List.length _≤i;simp only [List.length_append,List.length_singleton];omega) (B5 (h:=(B5 (h:=BZ)))) rfl (by decide) (GM rfl)
 ·intro xs hS hG
  exfalso
  have hG1:xs.length≤i:=hG;have hS1:(xs.length:Int)=AR runs:=hS;omega
 ·intro pre o' hSp hq;obtain ⟨_,rfl⟩:=hq;refine D1 (Hy am_ag380 (Hy am_ag27 res_n)) (⟨?_,rfl⟩);rfl
 intro id pre o' hSp hq;exact absurd hq.1 (by simp)
theorem SK {k:Int} (h:CA k≠0):1≤(Cp k).length:=by
 rcases Hq k with e | e | e | e | e | e | e | e | e
 iterate 8
  ·subst e;decide
 exact absurd (Dh e).2 h
theorem RW {bars:List Bar} {r:Rn} (hs:CY bars) (h:Dv bars r):2≤(B6 bars r).length:=by
 have hok:=hs.2.1 _ (G1 h.1);have h1:=SK hok.2.2.2.2.1;rw [N3 hok h.2.1,List.length_map,Du,FX];omega
theorem OW {bars:List Bar} {runs:List Rn} (h:BV bars runs) {p:List P3} (hp:p ∈ CZ bars runs):2≤p.length:=by
 obtain ⟨r,hr,k,hk,rfl⟩:=Jn hp
 unfold Kw
 rw [List.length_map];exact RW h.1 (h.2.2.1 r hr)
theorem M1 (l:List P3) (hlen:l.length≤1000):Fun Tryz.prog 295 [.sh 3 (l.map pntC)] (AI (.sh 6 ((l.map HY).map Bx.c)) []):=by
 refine Fun.of (nt:=20) (rs:=[.tmp 2]) Tryz.func295 rfl rfl rfl rfl rfl (Ab fun _ z=>Y Ad (Ac z (Ab fun _ z=>Y Ad (Ac z (Aj (Ab fun _ z=>Y Aa (Y (A5 am_el380) (Y Aa (Ac z (Ev.block (Av (Wk.nown Bx.c 3 58 6) (AC (ι:={p:List ((Int × Int × Int)) × List ((Int × Int × Int)) // p.1 ++ p.2=l∧True}) [0] [6,7] (fun ⟨(pre,suf),_⟩=>[(8,iL (pre.length:Int)),(3, .als 0 0 (pre.map HY).length)]) (fun ⟨(pre,suf),_⟩=>[(0,⟨true,58,6,(pre.map HY).map Bx.c,true⟩)]) (fun ⟨(pre,suf),_⟩=>suf.length) ⟨([],l),rfl,trivial⟩ (.c (.c .n)) (Ag) (Ae (h:=(Ae))) ?_))))))))))));rintro ⟨⟨pre,suf⟩,hp,hinv⟩ R0 hR0;dsimp only [cA,nA,lC,lN]
 simp only at hp hinv
 have hpl:=BO hp
 rcases suf with _ | ⟨s,suf⟩
 ·rw [List.append_nil] at hp;simp only [lN] at hpl;refine Ab fun _ z=>Y As (Ac z (AG (fun c1=>?_) (fun c1=>?_)))
  ·omega
  refine AA (hR0 _ _ (Ab fun _ z=>Y Aa (Y Ad (Ac z (Av (Wk.frz 2 []) (Ai (Ap ?_)))))))
  (rw [← hp];done)
 simp only [lC] at hpl;have hidx:=BM hp;obtain ⟨a,b,c⟩:=s;refine Ab fun _ z=>Y As (Ac z (AG (fun c2=>?_) (fun c2=>?_)))
 ·refine Aj (Ev.block (Ab fun _ z=>Y (AQ am_el380 am_cl56 (hl:=(by exact Ba hidx (by omega)))) (Y (Bv _ am_ag56 am_cl56) (Aq (AT am_ze56) (Ar _ true [_] am_in56 am_cl56 (h:=Ac z (Ah fun _ z=>Y Aa (Y (A6 _ am_ag56 am_cl56) (Y (A6 _ am_ag56 am_cl56) (Y (Bg _ am_ze58 am_pl58) (Aq (Bf [[_,_,_,_,_,_]] true am_el37 am_ze58 am_cl58) (AW [_,_] am_el37 am_ze58 am_cl58 am_by58 (hh:=A3) (hr:=(A7 [HY (a,b,c)])) (h:=Y Ad (Ac z ?_))))))))))))));show Ev _ _ _ _;refine Ah fun _ z=>Y Ax (Y Aa (Ac z (hR0 _ _ (A4 [3] [6,7] ⟨(pre ++ [(a,b,c)],suf),Bu hp,trivial⟩ B9 (Ag (he:=(by simp))) (Ae (he:=(by congr 2;simp)) (h:=(Ae (he:=(by simp))))) (.c (.c .n))))));skip
 omega
theorem PN (p q:P3) (hp:Bl p 1048576) (hq:Bl q 1048576):Fun Tryz.prog 233 [.sh 6 (([p,q].map HY).map Bx.c)] (AI (.tup [.agg (Hs p q).c,iL 0]) []):=by
 have h:=Ui [HY p,HY q] (by simp) (by simp) (fun b hb=>by
  simp only [List.mem_cons,List.not_mem_nil,or_false] at hb
  rcases hb with rfl | rfl
  ·exact Tf hp
  exact Tf hq)
 rw [Rd] at h;exact h
theorem JO (bars:List Bar) (runs:List Rn) (hok:BV bars runs) (hw:Ce bars) (hrw:Dw runs) (i:Nat) (l:List P3) (hp:(CZ bars runs)[i]?= some l):Fun Tryz.prog 184 [.sh 5 (bars.map Bar.c), .sh 10 (runs.map Rn.c),iL (i:Int)] (AI (.tup [.sh 6 ((BP l).map Bx.c),iL 0]) []):=by
 have hlm:=List.mem_of_getElem? hp;have hl2:=OW hok hlm;have hl7:=OV hlm;have hpl:=Qz hok hlm;refine Fun.of (nt:=49) (rs:=[.tmp 6, .tmp 7]) Tryz.func184 rfl rfl rfl rfl rfl (Ab fun _ z=>Y Ad (Y Ad (Ac z (Ab fun _ z=>Y Aa (Y Aa (Y Aa (Ay (hF:=OB bars runs hok hw hrw i l hp) (h:=Y Aa (Y AH (Y AH (Y Ad (Y Ad (Ac z (Aj (Ab fun _ z=>Y Aa (Y Bn (Ac z (Bh (fun c1=>?_) (fun c1=>?_)))))))))))))))))))
 ·omega
 refine Am (Ab fun _ z=>Y Ad (Ac z (Aj (Ab fun _ z=>Y Ad (Ac z (Ev.block (Av (Wk.nown Bx.c 10 58 6) (AC (ι:={k:Nat // 1≤k∧k≤l.length}) [0] [8] (fun ⟨k,_⟩=>[(11,iL (k:Int)),(10, .als 0 0 (GB l (k - 1)).length)]) (fun ⟨k,_⟩=>[(0,⟨true,58,6,(GB l (k - 1)).map Bx.c,true⟩)]) (fun ⟨k,_⟩=>l.length - k) ⟨1,by decide,by omega⟩ (.c .n) (Ag) (Ae (h:=(Ae))) ?_))))))));rintro ⟨k,hk1,hk2⟩ R0 hR0;dsimp only [cA,nA,lC,lN];have hgl:=Nf l (k - 1)
 by_cases hil:k < l.length
 rotate_left
 ·have hie:k=l.length:=by omega
  subst hie;refine Aj (Ab fun _ z=>Y Aa (Y Aa (Y (A5 am_el380) (Y As (Ac z (Az (fun c2=>?_) (fun c2=>?_)))))))
  ·omega
  refine AA (hR0 _ _ (Ab fun _ z=>Y Aa (Y Ad (Y Ad (Ac z (Av (Wk.frz 6 []) (Ai (Cd ?_))))))));rfl
 obtain ⟨v1,hpi⟩:∃ p,l[k - 1]?= some p:=⟨_,List.getElem?_eq_getElem (by omega)⟩;obtain ⟨v2,hqi⟩:∃ q,l[k]?= some q:=⟨_,List.getElem?_eq_getElem hil⟩;have hsl:=T9 hk1 hpi hqi
 have hgs:GB l (k+1 - 1)=GB l (k - 1) ++ [Hs v1 v2]:=by
  obtain ⟨j,rfl⟩:∃ j,k=j+1:=⟨k - 1,by omega⟩;rw [Nat.add_sub_cancel] at hpi ⊢;rw [Rl,hpi,hqi];rfl
 refine Aj (Ab fun _ z=>Y Aa (Y Aa (Y (A5 am_el380) (Y As (Ac z (Az (fun c3=>?_) (fun c3=>?_)))))))
 ·refine Am (Aj (Ev.block (Ab fun _ z=>Y Aa (Y Aa (Y BK (Y Aa (Y Ax (Y (R7 am_el380 am_cl56) ?_))))))));rw [hsl];refine Ay (hF:=M1 [v1,v2] (by simp)) (h:=Ay (hF:=PN v1 v2 (hpl _ (List.mem_of_getElem? hpi)) (hpl _ (List.mem_of_getElem? hqi))) (h:=Y Aa (Y AH (Y AH (Aq (AT am_ze58) (Ar _ true [_] am_in58 am_cl58 (h:=Y Ad (Ac z (Aj (Ab fun _ z=>Y Aa (Y Bn (Ac z (Bh (fun c4=>?_) (fun c4=>?_))))))))))))))
  ·omega
  refine Am (Ah fun _ z=>Y Aa (Y (A6 _ am_ag58 am_cl58) (Aq (Bf [[_,_,_,_,_,_]] true am_el37 am_ze58 am_cl58) (AW [_,_] am_el37 am_ze58 am_cl58 am_by58 (hh:=A3) (hr:=(A7 [(Hs v1 v2)])) (h:=Y Ad (Ac z ?_))))));show Ev _ _ _ _;refine Ah fun _ z=>Y Aa (Y Ax (Y Ad (Ac z (hR0 _ _ (A4 [3] [8] ⟨k+1,by omega,by omega⟩ ?_ (Ag (he:=(by rw [hgs,List.map_append] <;> rfl))) (Ae (h:=(Ae (he:=(by rw [hgs,List.length_append] <;> rfl))))) (.c .n))))));skip;all_goals (dsimp only;omega)
 omega
end Go.Proofs.YtaololdbooblkaaGreatDoor
