/-
  Part 25 of the proof: functions walked on the abstract machine.
  Conditions: none.
-/
import Derived.Shelf.Lay
import Derived.Ground.NamesProg
import Derived.Test.YtaololdbooblkaaGreatDoorX24
set_option linter.unusedSimpArgs false
set_option linter.unusedVariables false
set_option maxRecDepth 100000
set_option maxHeartbeats 1000000
namespace Go.Proofs.YtaololdbooblkaaGreatDoor
open Go Go.AM
open Go.Shelf in
shelf_lay Lays.n212 Nm 212 at Tryz as lays212
theorem OK (a n:Int) (ha:a=1) (h0:0≤n) (h1:n≤1000000):Fun Tryz.prog 234 [.lit (.int .u64 a), .lit (.int .u64 n)] (AI (.tup [.lit (.int .u64 0), .lit (.int .u64 n)]) []):=by
 subst ha;obtain ⟨k,rfl⟩:=Int.eq_ofNat_of_zero_le h0;have h:=VY lays212 ⟨_,Tryz.func234,rfl,rfl⟩ 1 k (by decide) (by omega);rw [Nat.one_mul,Nat.div_eq_of_lt (by omega),Nat.mod_eq_of_lt (by omega)] at h;exact h
def Ke (x:Int) (N k:Nat):List Int:=List.replicate k x ++ List.replicate (N - k) 0
theorem K2 (x:Int) {N k:Nat} (h:k≤N):(Ke x N k).length=N:=by simp [Ke];omega
theorem US (x:Int) {N k:Nat} (h1:1≤k) (h:k < N):(Ke x N k).take k ++ ((Ke x N k).drop 0).take (min k (N - k)) ++ (Ke x N k).drop (k+min k (N - k))=Ke x N (k+min k (N - k)):=by
 have hm:min k (N - k)≤k:=Nat.min_le_left _ _;have hm2:min k (N - k)≤N - k:=Nat.min_le_right _ _
 generalize min k (N - k)=m at hm hm2
 unfold Ke
 rw [List.drop_zero,List.take_append_of_le_length (by simp),List.take_append_of_le_length (by simpa using hm),List.drop_append];simp only [List.take_replicate,List.drop_replicate,List.length_replicate,Nat.min_self,Nat.min_eq_left hm];rw [show k - (k+m)=0 by omega,List.replicate_zero,List.nil_append,List.replicate_append_replicate,show k+m - k=m by omega,show N - k - m=N - (k+m) by omega]
theorem RH (x n:Int) (h0:1≤n) (h1:n≤1000000):Fun Tryz.prog 165 [.sh 1 ([x].map AD),iL n] (AI (.als 0 0 (List.replicate n.toNat x).length) [(0,⟨true,3,1,(List.replicate n.toNat x).map AD,true⟩)]):=by
 obtain ⟨N,rfl⟩:=Int.eq_ofNat_of_zero_le (show 0≤n by omega)
 have hN:1≤N:=by omega
 generalize hL:[x]=L
 have hLl:L.length=1:=by rw [← hL];rfl
 have emL:min 1 N=1:=by omega
 refine Fun.of (nt:=48) (rs:=[.tmp 4]) Tryz.func165 rfl rfl rfl rfl rfl ?_;refine Ab fun _ z=>Y Ad (Ac z ?_);refine Aj (Ab fun _ z=>Y Aa (Y As (Ac z ?_)));refine Az (fun c1=>?_) (fun c1=>?_)
 ·omega
 refine Am (Ab fun _ z=>Y Aa (Y (A5 am_el24) (Y (LR am_un301 am_us3) (Y Aa (Y (LR am_un301 am_us3) (Ay (hF:=OK _ _ (by omega) (by omega) (by omega)) (h:=Y Aa (Y AH (Y AH (Y Ad (Y Ad (Ac z ?_))))))))))));refine Aj (Ab fun _ z=>Y Aa (Y Be (AS Aa (fun c2=>?_) (fun c2=>?_))))
 ·omega
 refine Y Aa (Y Be (Y AE (Ac z ?_)));refine Az (fun c3=>?_) (fun c3=>?_)
 ·omega
 refine Am (Ab fun _ z=>Y Aa (Y (NU am_un3 am_us301) (Ih (f:=AD) (0) am_el24 am_ze3 am_cl3 am_by3 (h:=Y Ad (Ac z ?_)))));refine Ab fun _ z=>Y Aa (Y Aa (XT [] am_el24 am_ze3 am_cl3 (h:=Y Ad (Ac z ?_))));refine Aj (Ev.block (AC (ι:={k:Nat // 1≤k∧k≤N}) [0] [] (fun ⟨k,_⟩=>[(8,iL (k:Int)),(7, .als 0 0 (Ke x N k).length)]) (fun ⟨k,_⟩=>[(0,⟨true,3,1,(Ke x N k).map AD,true⟩)]) (fun ⟨k,_⟩=>N - k) ⟨1,Nat.le_refl _,hN⟩ .n (Ag (he:=(by simp [hLl,emL];rw [← hL];simp [Ke]))) (Ae (he:=(by simp [hLl,emL])) (h:=(Ae (he:=(by rw [K2 x hN];(congr 1;simp)))))) ?_));rintro ⟨k,hk1,hk2⟩ R0 hR0;dsimp only [cA,nA,lC,lN];have hrl:=K2 x hk2;refine Aj (Ab fun _ z=>Y Aa (Y Aa (Y (Fq am_el24) (Y As (Ac z ?_)))));refine Az (fun c4=>?_) (fun c4=>?_)
 ·refine Am (Ev.block (P6 (tbs [(0,0),(0,0),(0,0),(3,6),(0,0),(0,0),(6,48),(7,126),(8,255),(9,511)]) 7 fun _ z=>Ak Aa (Ak Aa (Ak Aa (Ak (R8 am_el24 am_cl3) (Ak Aa (Ak Aa (Ak (R8 am_el24 am_cl3) (XO 0 [] am_el24 am_ze3 am_cl3 (h:=Y Ax (Y Ad (Ac z ?_))))))))))));refine hR0 _ _ (A4 [0] [] ⟨k+min k (N - k),by omega,by have:=Nat.min_le_right k (N - k);omega⟩ ?_ (Ag (he:=(by congr 1;simp only [Int.toNat_natCast,Int.toNat_zero,Nat.sub_zero,Nat.zero_add,Nat.add_zero,hrl];exact US (N:=N) (k:=k) x hk1 (by omega)))) (Ae (he:=(by simp [hLl];omega)) (h:=(Ae (he:=(by rw [K2 x hk2,K2 x (by omega)]))))) .n);skip;all_goals (dsimp only;have hz:1≤min k (N - k):=Nat.le_min.2 ⟨hk1,by omega⟩;omega)
 refine AA (hR0 _ _ (Ab fun _ z=>Y Aa (Y Ad (Ac z ?_))));refine Ai (H4 (⟨?_,?_⟩));all_goals (have hkN:k=N:=(by omega);subst hkN;simp [Ke])
theorem PX (x:Int) (N:Nat) (h0:N=0):Fun Tryz.prog 165 [.sh 1 ([x].map AD),iL (N:Int)] (AI (.als 0 0 (List.replicate N x).length) [(0,⟨true,3,1,(List.replicate N x).map AD,true⟩)]):=by
 generalize hL:[x]=L
 have hLl:L.length=1:=by rw [← hL];rfl
 have hrl:(List.replicate N (0:Int)).length=N:=List.length_replicate;refine Fun.of (nt:=48) (rs:=[.tmp 4]) Tryz.func165 rfl rfl rfl rfl rfl ?_;refine Ab fun _ k=>Y Ad (Ac k ?_);refine Aj (Ab fun _ k=>Y Aa (Y As (Ac k ?_)));refine Az (fun c1=>?_) (fun c1=>?_)
 ·omega
 refine Am (Ab fun _ k=>Y Aa (Y (A5 am_el24) (Y (LR am_un301 am_us3) (Y Aa (Y (LR am_un301 am_us3) (Ay (hF:=OK _ _ (by omega) (by omega) (by omega)) (h:=Y Aa (Y AH (Y AH (Y Ad (Y Ad (Ac k ?_))))))))))));refine Aj (Ab fun _ k=>Y Aa (Y Be (AS Aa (fun c2=>?_) (fun c2=>?_))))
 ·omega
 refine Y Aa (Y Be (Y AE (Ac k ?_)));refine Az (fun c3=>?_) (fun c3=>?_)
 ·omega
 refine Am (Ab fun _ k=>Y Aa (Y (NU am_un3 am_us301) (Ih (f:=AD) (0) am_el24 am_ze3 am_cl3 am_by3 (h:=Y Ad (Ac k ?_)))));refine Ab fun _ k=>Y Aa (Y Aa (WH am_el24 am_ze3 (h1:=(by rw [List.length_replicate];exact h0)) (h:=Y Ad (Ac k ?_))));refine Aj (Ev.block (AC (ι:=Unit) [0] [] (fun _=>[(8,iL (0)),(7, .als 0 0 (List.replicate N (0:Int)).length)]) (fun _=>[(0,⟨true,3,1,(List.replicate N (0:Int)).map AD,true⟩)]) (fun _=>0) () .n (Ag) (Ae (h:=(Ae))) ?_));rintro _u R0 hR0;dsimp only [cA,nA,lC,lN];skip;have hz:=h0;refine Aj (Ab fun _ k=>Y Aa (Y Aa (Y (Fq am_el24) (Y As (Ac k ?_)))));refine Az (fun c4=>?_) (fun c4=>?_)
 ·omega
 refine AA (hR0 _ _ (Ab fun _ k=>Y Aa (Y Ad (Ac k ?_))));refine Ai (H4 (⟨?_,?_⟩));all_goals (subst h0;rfl)
theorem RG (x n:Int) (h0:0≤n) (h1:n≤1000000):Fun Tryz.prog 165 [.sh 1 ([x].map AD),iL n] (AI (.als 0 0 (List.replicate n.toNat x).length) [(0,⟨true,3,1,(List.replicate n.toNat x).map AD,true⟩)]):=by
 by_cases h:1≤n
 ·exact RH x n h h1
 obtain ⟨N,rfl⟩:=Int.eq_ofNat_of_zero_le h0;exact PX x N (by omega)
def Es (n:Nat) (Aw:List (Int × Int)) (order:List Int):Prop:=order.length=n∧(∀ i ∈ order,0≤i∧i < n)∧order.Nodup∧∀ e ∈ Aw,e.1 ∈ order∧e.2 ∈ order∧order.idxOf e.1 < order.idxOf e.2
def GQ (pre:List Int) (i:Int):Int:=if i ∈ pre then (pre.idxOf i:Int) else -1
theorem Xm (pre:List Int) (i:Int): -1≤GQ pre i∧GQ pre i≤pre.length:=by
 unfold GQ
 split
 ·rename_i h
  have:=List.idxOf_lt_length_of_mem h;omega
 omega
theorem UD {n:Nat} {pre:List Int} {s:Int} (hs:0≤s∧s < n) (hn:¬ s ∈ pre):(BD n (GQ pre)).set s.toNat (pre.length:Int)=BD n (GQ (pre ++ [s])):=by
 rw [I5 hs];refine FJ fun i _ _=>?_
 unfold GQ
 by_cases e:i=s
 ·subst e;rw [if_pos rfl,if_pos (by simp),List.idxOf_append,if_neg hn]
  simp
 rw [if_neg e]
 by_cases h:i ∈ pre
 ·rw [if_pos h,if_pos (by simp [h]),List.idxOf_append,if_pos h]
 rw [if_neg h,if_neg (by simp [h,e])]
theorem Wa (n:Nat):List.replicate n (-1:Int)=BD n (GQ []):=by
 apply List.ext_getElem?
 intro j
 by_cases hj:j < n
 ·simp [BD,hj,GQ]
 simp [BD,hj]
theorem Si {n:Nat} {order:List Int} (hl:order.length=n) (hr:∀ i ∈ order,0≤i∧i < n) (hd:order.Nodup) {u:Int} (hu:0≤u∧u < n):u ∈ order:=by
 refine Decidable.byContradiction fun hn=>?_;have h1:(u :: order).Nodup:=List.nodup_cons.2 ⟨hn,hd⟩
 have h3:=h1.length_le_of_subset (l₂:=(List.range n).map fun i:Nat=>(i:Int)) (fun x hx=>by
  rw [List.mem_map]
  have hx2:0≤x∧x < n:=by
   rcases List.mem_cons.1 hx with rfl | hx
   ·exact hu
   exact hr x hx
  exact ⟨x.toNat,List.mem_range.2 (by omega),by omega⟩)
 simp only [List.length_cons,List.length_map,List.length_range] at h3;omega
def Vt (pl:List Int) (i:Int):Int:=(pl[i.toNat]?).getD 0
def Qq (pl:List Int) (e:Int × Int):Bool:=decide (Vt pl e.1 ≥ Vt pl e.2)
theorem VR {n:Nat} {Aw:List (Int × Int)} {order:List Int} (hE:FC n Aw) (hl:order.length=n) (hr:∀ i ∈ order,0≤i∧i < n) (hd:order.Nodup) (h:¬ ∃ e ∈ Aw,Qq (BD n (GQ order)) e=true):Es n Aw order:=by
 refine ⟨hl,hr,hd,fun e he=>?_⟩;have h1:=Si hl hr hd (hE e he).1;have h2:=Si hl hr hd (hE e he).2;refine ⟨h1,h2,?_⟩;refine Decidable.byContradiction fun hn=>h ⟨e,he,?_⟩
 unfold Qq Vt
 rw [EF (hE e he).1,EF (hE e he).2];simp only [Option.getD_some,GQ,if_pos h1,if_pos h2,decide_eq_true_eq];omega
def UA (n:Int) (i:Int):Bool:=decide (i < 0∨i ≥ n)
def HW (b:Bool):Int:=if b=true then 0 else 23
theorem Yo {n:Nat} {Aw:List (Int × Int)} {r:List Int × Bool} (hr:Ck n Aw r) (h:r.2=true):∃ r':List Int × Bool,Ck n Aw r'∧AV.tup [.sh 1 (r.1.map AD),iL 0]= .tup [.sh 1 (r'.1.map AD),iL (HW r'.2)]∧([]:List (Nat × AM.Obj))=[]:=⟨r,hr,by rw [h];rfl,rfl⟩
theorem Yn {n:Nat} {Aw:List (Int × Int)} {r:List Int × Bool} (hr:Ck n Aw r) (h:r.2=false):∃ r:List Int × Bool,Ck n Aw r∧AV.tup [.sh 1 (([]:List Int).map AD),iL 23]= .tup [.sh 1 (r.1.map AD),iL (HW r.2)]∧([]:List (Nat × AM.Obj))=[]:=⟨r,hr,by rw [h,(hr.2 h).1];rfl,rfl⟩
theorem K9 (n:Nat) (Aw:List (Int × Int)) (hn:n≤60) (hl:Aw.length≤1000) (hE:FC n Aw):Fun Tryz.prog 144 [iL n, .sh 2 (Aw.map pairC)] (fun v l=>∃ r:List Int × Bool,Ck n Aw r∧v= .tup [.sh 1 (r.1.map AD),iL (HW r.2)]∧l=[]):=by
 refine Fun.of (nt:=21) (rs:=[.tmp 4, .tmp 5]) Tryz.func144 rfl rfl rfl rfl rfl (Ab fun _ k=>Y Ad (Y Ad (Ac k (Aj (Ab fun _ k=>Y Aa (Y Aa (Ay (hF:=KA n Aw hn hl hE) (h:=Y Bw (Ac k (En (fun c1=>?_) (fun c1=>?_)))))))))))
 ·contradiction
 refine Am (Ab fun _ k=>Y Aa (Y Aa (Fw (hF:=Tc n Aw hn hl hE) (h:=fun r hr=>(Y Aa (Y AH (Y AH (Y Ad (Y Ad (Ac k (Aj (Ab fun _ k=>Y Aa (Y Bw (Ac k (En (fun c2=>?_) (fun c2=>?_))))))))))))))))
 ·refine Ab fun _ k=>Y Ad (Y Ad (Ac k (Av (Wk.nsh AD 4 1) (Ai (Cx ?_)))));skip;exact Yn hr (by simp_all;done)
 refine Am (Ab fun _ k=>Y Aa (Y Ad (Y Ad (Ac k (Ai (Cx ?_))))));skip;exact Yo hr (by simp_all;done)
theorem NK (g:FuncId) (c0:List AV) (p:Int→Bool) (hg:∀ s,Fun Tryz.prog g [(AD s).headD .top, .sadr c0 0] (AI (bL (p s)) [])) (l:List (Int)) (hlen:l.length≤140737488355328) :
 Fun Tryz.prog 276 [.sh 1 (l.map AD), .fn (.func g) [] [.sadr c0 0]] (AI (iL (Cn p l 0)) []):=by
 refine Fun.of (nt:=19) (rs:=[.tmp 4]) Tryz.func276 rfl rfl rfl rfl rfl (Ab fun _ k=>Y Ad (Ac k (Aj (Ab fun _ k=>Y Aa (Y (A5 am_el24) (Y Aa (Ac k (Ev.block (AC (ι:={q:List (Int) × List (Int) // q.1 ++ q.2=l∧∀ x ∈ q.1,p x=false}) [] [0,1,7] (fun ⟨(pre,suf),_⟩=>[(8,iL (pre.length:Int))]) (fun ⟨(pre,suf),_⟩=>[]) (fun ⟨(pre,suf),_⟩=>suf.length) ⟨([],l),rfl,fun x hx=>by simp at hx⟩ (.c (.c (.c .n))) AN (Ae) ?_)))))))));rintro ⟨⟨pre,suf⟩,hp,hinv⟩ R0 hR0;dsimp only [cA,nA,lC,lN]
 simp only at hp hinv
 have hpl:=BO hp
 rcases suf with _ | ⟨s,suf⟩
 ·rw [List.append_nil] at hp;subst hp;simp only [List.length_nil] at hpl;refine Ab fun _ k=>Y As (Ac k (AG (fun c1=>?_) (fun c1=>?_)))
  ·omega
  refine AA (hR0 _ _ (Ab fun _ k=>Y Ad (Ac k (Ai (Ap ?_)))))
  congr 2;rw [Ez p pre 0 hinv]
 simp only [lC] at hpl;have hidx:=BM hp;refine Ab fun _ k=>Y As (Ac k (AG (fun c3=>?_) (fun c3=>?_)))
 ·refine Aj (Ev.block (Ab fun _ k=>Y Aa (Y Ad (Ac k (Ab fun _ k=>Y Aa (Y Aa (Y Aa (Y (AQ am_el24 am_cl3 (hl:=(by exact Ba hidx (by omega)))) (Y (AO am_ag3) (Ay (hF:=hg s) (h:=Ac k (En (fun c4=>?_) (fun c4=>?_)))))))))))))
  ·refine Ab fun _ k=>Y Aa (Y Ad (Ac k (Ai (hR0 _ _ (Ap ?_)))))
   congr 2;rw [← hp,CQ p pre _ 0 hinv,Cn,if_pos ‹_›];omega
  refine Am (Ah fun _ k=>Y Ax (Y Aa (Ac k (hR0 _ _ (A4 [] [0,1,7] ⟨(pre ++ [s],suf),Bu hp,?_⟩ B9 AN (Ae (he:=(by simp))) (.c (.c (.c .n))))))))
  intro x hx;simp only [List.mem_append,List.mem_singleton] at hx;rcases hx with hx | rfl
  ·exact hinv x hx
  ·assumption
 omega
theorem KU (g:FuncId) (c0:List AV) (p:Int→Bool) (hg:∀ s,Fun Tryz.prog g [(AD s).headD .top, .sadr c0 0] (AI (bL (p s)) [])) (l:List (Int)) (hlen:l.length≤140737488355328) :
 Fun Tryz.prog 163 [.sh 1 (l.map AD), .fn (.func g) [] [.sadr c0 0]] (AI (bL (decide (∃ x ∈ l,p x=true))) []):=by
 have hd:(decide (∃ x ∈ l,p x=true))=decide (0≤Cn p l 0):=by simp only [Ed p l 0 (Int.le_refl _)]
 rw [hd];refine Fun.of (nt:=9) (rs:=[.tmp 4]) Tryz.func163 rfl rfl rfl rfl rfl (Ab fun _ k=>Y Ad (Ac k (Ab fun _ k=>Y Aa (Y Aa (Ay (hF:=NK g c0 p hg l hlen) (h:=Y BR (Y Ad (Ac k (Ai (Ap ?_))))))))));rfl
theorem QO (n i:Int):Fun Tryz.prog 164 [iL i, .sadr [iL n] 0] (AI (bL (UA n i)) []):=by
 refine Fun.of (nt:=11) (rs:=[.tmp 3]) Tryz.func164 rfl rfl rfl rfl rfl (Ab fun _ k=>Y Ad (Ac k (Ab fun _ k=>Y Aa (Y As (AS Aa (fun c1=>?_) (fun c1=>?_))))))
 ·refine Au (Bq (Y AF (Y Ad (Ac k (Ai (Ap ?_))))));exact bT (p:=_∨_) (.inl ‹_›)
 refine Y Aa (Y (AO am_ag3) (Y BR (Y AE (Y Ad (Ac k (Ai (Ap ?_)))))));exact dI (by omega)
theorem QP (pl:List Int) (n:Nat) (hl:pl.length=n) (e:Int × Int) (he:(0≤e.1∧e.1 < n)∧0≤e.2∧e.2 < n):Fun Tryz.prog 167 [.agg (pairC e), .sadr [.sh 1 (pl.map AD)] 0] (AI (bL (Qq pl e)) []):=by
 obtain ⟨a,b⟩:=e
 dsimp only at he
 obtain ⟨pa,hpa⟩:∃ p,pl[a.toNat]?= some p:=⟨_,List.getElem?_eq_getElem (by omega)⟩;obtain ⟨pb,hpb⟩:∃ p,pl[b.toNat]?= some p:=⟨_,List.getElem?_eq_getElem (by omega)⟩
 have hge:Qq pl (a,b)=decide (pa ≥ pb):=by unfold Qq Vt;rw [hpa,hpb];rfl
 rw [hge];refine Fun.of (nt:=15) (rs:=[.tmp 3]) Tryz.func167 rfl rfl rfl rfl rfl (Ab fun _ k=>Aq (Bo _ true) (Y Ad (Ac k (BW (tbs [(0,0),(0,0),(2,2),(3,7),(4,15),(0,0),(0,0),(7,64),(8,224),(9,480),(10,1023),(11,2047)]) 11 fun _ k=>Ak (AO am_ag24) (Ak (Bs am_el274 am_ar274 am_cl3) (Ak (Ao am_ag3) (Ak (AQ am_el24 am_cl3 (hl:=(by exact Ba hpa (by omega)))) (Ak (AO am_ag3) (Ak (AO am_ag24) (Ak (Bs am_el274 am_ar274 am_cl3) (Ak (Ao am_ag3) (Ak (AQ am_el24 am_cl3 (hl:=(by exact Ba hpb (by omega)))) (Ak (AO am_ag3) (Ak BR (B3 [_] (h:=Y Ad (Ac k (Ai (Ap ?_)))))))))))))))))));rfl
theorem QR {n:Nat} {Aw:List (Int × Int)} {order:List Int} {c:Int} (h:c≠0):∃ q:Bool × Int,(q.2=0→q.1=true→Es n Aw order)∧AV.tup [bL false,iL c]= .tup [bL q.1,iL q.2]∧([]:List (Nat × AM.Obj))=[]:=⟨(false,c),fun h0=>absurd h0 h,rfl,rfl⟩
theorem WU {n:Nat} {Aw:List (Int × Int)} {order:List Int} {b:Bool} (h:b=true→Es n Aw order):∃ q:Bool × Int,(q.2=0→q.1=true→Es n Aw order)∧AV.tup [bL b,iL 0]= .tup [bL q.1,iL q.2]∧([]:List (Nat × AM.Obj))=[]:=⟨(b,0),fun _=>h,rfl,rfl⟩
theorem PI (n:Nat) (Aw:List (Int × Int)) (hn:n≤60) (hl:Aw.length≤1000) (hE:FC n Aw) (order:List Int) (hol:order.length≤1000):Fun Tryz.prog 62 [iL n, .sh 2 (Aw.map pairC), .sh 1 (order.map AD)] (fun v l=>∃ q:Bool × Int,(q.2=0→q.1=true→Es n Aw order)∧v= .tup [bL q.1,iL q.2]∧l=[]):=by
 have hcm:=fun (pl:List Int) (hpl:pl.length=n) (e:Int × Int) (he:e ∈ Aw)=>QP pl n hpl e (hE e he);have hg1:[(-1:Int)].length=1:=rfl;refine Fun.of (nt:=49) (rs:=[.tmp 6, .tmp 7]) Tryz.func62 rfl rfl rfl rfl rfl (Ab fun _ k=>Aq (Bo _ true) (Y Ad (Y Ad (Ac k (Aj (Ev.block (Av (Wk.frzv 3 []) (Ab fun _ k=>Y (AO am_ag3) (Y Aa (Ay (hF:=KA n Aw hn hl hE) (h:=Y Bw (Y Ad (Ac k (En (fun c1=>?_) (fun c1=>?_)))))))))))))))
 ·contradiction
 refine Ab fun _ k=>Y Aa (Y (A5 am_el24) (Y (AO am_ag3) (Y Bn (Y Ad (Ac k (Bh (fun c2=>?_) (fun c2=>?_)))))))
 ·refine Ab fun _ k=>Y Ad (Y Ad (Ac k (Ai (Cx ?_))));skip;exact QR (by decide)
 refine Ab fun _ k=>Y Aa (Y EE (Ay (hF:=KU _ _ (UA n) (fun s=>QO n s) order (by omega)) (h:=Y Ad (Ac k (Az (fun c3=>?_) (fun c3=>?_))))))
 ·refine Ab fun _ k=>Y Ad (Y Ad (Ac k (Ai (Cx ?_))));skip;exact QR (by decide)
 refine Am ?_;have hrr:∀ i ∈ order,0≤i∧i < n:=fun i hi=>Decidable.byContradiction fun h=>absurd ⟨i,hi,decide_eq_true (by omega)⟩ ‹¬ ∃ x ∈ order,UA n x=true›;refine Ab fun _ k=>Aq (Bf [[_]] true am_el24 am_ze3 am_cl3) (Y (AO am_ag3) (SeqL.weaken (Wk.frzl (f:=AD) [-1] 25 []) (Oe (hF:=RG (-1) n (by omega) (by omega)) (h:=Aq (AT am_ze24) (Ar _ false [_] am_in24 am_cl24 (h:=Ac k (Aj (Ab fun _ k=>Y Aa (Y (A5 am_el24) (Y Aa (Ac k (Ev.block (AC (ι:={p:List (Int) × List (Int) // p.1 ++ p.2=order∧p.1.Nodup}) [3,2] [1,8,28,29] (fun ⟨(pre,suf),_⟩=>[(30,iL (pre.length:Int))]) (fun ⟨(pre,suf),_⟩=>[(0,⟨false,24,1,[[.als 1 0 (BD n (GQ pre)).length]],false⟩),(1,⟨true,3,1,(BD n (GQ pre)).map AD,true⟩)]) (fun ⟨(pre,suf),_⟩=>suf.length) ⟨([],order),rfl,List.nodup_nil⟩ (.c (.c (.c (.c .n)))) (Bd (he:=(by simp [CH])) (h:=(Ag (he:=(by rw [Int.toNat_natCast,Wa]))))) (Ae) ?_)))))))))))));rintro ⟨⟨pre,suf⟩,hp,hinv⟩ R1 hR1;dsimp only [cA,nA,lC,lN]
 simp only at hp hinv
 have hpl:=BO hp
 rcases suf with _ | ⟨s,suf⟩
 ·rw [List.append_nil] at hp;simp only [lN] at hpl;subst pre;have hnd:=hinv;refine Ab fun _ k=>Y As (Ac k (AG (fun c4=>?_) (fun c4=>?_)))
  ·omega
  refine AA (hR1 _ _ (Av (Wk.frzC (f:=AD) _ 0 0 []) (Av (Wk.frzv 8 []) (Ab fun _ k=>Y Aa (Y EE (Ay (hF:=Io _ _ (Qq (BD n (GQ order))) Aw (fun s hs=>hcm _ CH s hs) (by omega)) (h:=Y Bw (Y Ad (Y Ad (Ac k (Ai (Cx ?_))))))))))));skip;exact WU (fun h=>VR hE (by omega) hrr hnd (by simpa using h))
 simp only [lC] at hpl;have hidx:=BM hp;have hsr:=hrr s (by rw [← hp];simp);have hat:=EF (w:=GQ pre) hsr;have hwl:=CH (n:=n) (w:=GQ pre);have hpb:=Xm pre s;refine Ab fun _ k=>Y As (Ac k (AG (fun c5=>?_) (fun c5=>?_)))
 ·refine Aj (Ev.block (Ab fun _ k=>Y Aa (Y (AQ am_el24 am_cl3 (hl:=(by exact Ba hidx (by omega)))) (Y (AO am_ag3) (Y Ad (Y Ad (Ac k (Aj (Ab fun _ k=>Y (Ao am_ag24) (Y Aa (Y (BT am_el24 am_cl3) (Y (Ee am_ag3 (hl:=(by exact at_ hat (by omega)))) (Y BR (Ac k (Az (fun c6=>?_) (fun c6=>?_))))))))))))))))
  ·refine Ab fun _ k=>Y Ad (Y Ad (Ac k (Ai (hR1 _ _ (Cx ?_)))));skip;exact QR (by decide)
  refine Am ?_;have hns:¬ s ∈ pre:=fun h=>absurd (show GQ pre s ≥ 0 by unfold GQ;rw [if_pos h];omega) (by omega);refine Ah fun _ k=>Y (Ao am_ag24) (Y Aa (Y Aa (Y (BT am_el24 am_cl3) (DH (pre.length:Int) [_] am_in3 am_cl3 (hl:=(by exact at_ hat (by omega))) (h:=Ac k ?_)))));show Ev _ _ _ _;refine Ah fun _ k=>Y Ax (Y Aa (Ac k (hR1 _ _ (A4 [0,1] [1,8,28,29] ⟨(pre ++ [s],suf),Bu hp,List.nodup_append.2 ⟨hinv,by simp,fun a ha b hb e=>hns (by rw [List.mem_singleton] at hb;rw [← hb, ← e];exact ha)⟩⟩ B9 (Bd (he:=(by simp [CH])) (h:=(Ag (he:=(by rw [UD hsr hns]))))) (Ae (he:=(by congr 2;simp))) (.c (.c (.c (.c .n))))))));skip
 omega
theorem VM {bars:List Bar} {runs:List Rn} {by_:List Int} {i K:Nat} {e:Int × Int} (h:e ∈ Er bars runs by_ i K):e.1=i∧(0≤e.2∧e.2 < K)∧e.1≠e.2∧Ep bars runs e.1 e.2 ((by_[i]?).getD 0):=by
 unfold Er at h
 obtain ⟨k,hk,rfl⟩:=List.mem_map.1 h;rw [List.mem_filter] at hk;have h1:=List.mem_range.1 hk.1;have h2:=of_decide_eq_true hk.2;exact ⟨rfl,⟨by dsimp only;omega,by dsimp only;omega⟩,by dsimp only;omega,h2.2⟩
theorem HN {bars:List Bar} {runs:List Rn} {by_:List Int} {e:Int × Int}:e ∈ Aw bars runs by_↔∃ i k:Nat,i < (AR runs).toNat∧k < (AR runs).toNat∧i≠k∧e=((i:Int),(k:Int))∧Ep bars runs i k ((by_[i]?).getD 0):=by
 unfold Aw HM
 rw [List.mem_flatMap]
 constructor
 ·rintro ⟨i,hi,he⟩;obtain ⟨h1,h2,h3,h4⟩:=VM he;refine ⟨i,e.2.toNat,List.mem_range.1 hi,by omega,by omega,?_,?_⟩
  ·rw [← h1,Int.toNat_of_nonneg h2.1]
  rw [← h1,Int.toNat_of_nonneg h2.1];exact h4
 rintro ⟨i,k,hi,hk,hik,rfl,hb⟩;refine ⟨i,List.mem_range.2 hi,?_⟩
 unfold Er
 exact List.mem_map.2 ⟨k,List.mem_filter.2 ⟨List.mem_range.2 hk,decide_eq_true ⟨hik,hb⟩⟩,rfl⟩
theorem KW (bars:List Bar) (runs:List Rn) (by_:List Int):FC (AR runs).toNat (Aw bars runs by_):=by
 intro e he;obtain ⟨i,k,hi,hk,_,rfl,_⟩:=HN.1 he
 dsimp only
 omega
theorem GK {bars:List Bar} {runs:List Rn} {by_:List Int} (hn:AR runs≤12):(Aw bars runs by_).length≤144:=by
 have h:=KV (bars:=bars) (runs:=runs) (by_:=by_) (n:=(AR runs).toNat) (AR runs).toNat;have:=Nat.mul_le_mul (show (AR runs).toNat≤12 by omega) (show (AR runs).toNat≤12 by omega)
 unfold Aw
 omega
theorem Mv {bars:List Bar} {runs:List Rn} {by_:List Int} (hn:AR runs≤12):(L5 bars runs by_).length≤144:=by
 unfold L5
 split
 ·exact GK hn
 simp
def Xb (runs:List Rn) (by_:List Int):Int:=if Eh runs by_=0 then AR runs else 0
theorem Sx {bars:List Bar} {runs:List Rn} {by_:List Int} (h:¬ Eh runs by_=0):L5 bars runs by_=[]∧Xb runs by_=0:=⟨if_neg h,if_neg h⟩
theorem H6 {bars:List Bar} {runs:List Rn} {by_:List Int} (h:Eh runs by_=0):L5 bars runs by_=Aw bars runs by_∧Xb runs by_=AR runs:=⟨if_pos h,if_pos h⟩
theorem MZ (bars:List Bar) (runs:List Rn) (hok:BV bars runs) (hw:Ce bars) (hrw:Dw runs) (hn:AR runs≤12) (by_:List Int) (hbl:by_.length≤1000):Fun Tryz.prog 61 [.sh 5 (bars.map Bar.c), .sh 10 (runs.map Rn.c), .sh 1 (by_.map AD)] (AI (.tup [iL (Xb runs by_), .sh 2 ((L5 bars runs by_).map pairC),iL (Eh runs by_)]) []):=by
 have hn1:∀ r ∈ runs,1≤r.n:=fun r hr=>(hok.2.2.1 r hr).2.2.1.1;have hnn:=D4 hn1;have hel:=Mv (bars:=bars) (by_:=by_) hn;have hcn:(((AR runs).toNat:Nat):Int)=AR runs:=Int.toNat_of_nonneg hnn;refine Fun.of (nt:=36) (rs:=[.tmp 6, .tmp 7, .tmp 8]) Tryz.func61 rfl rfl rfl rfl rfl (Ab fun _ z=>Y Ad (Y Ad (Y Ad (Ac z (Ab fun _ z=>Y Aa (Y Aa (Y Aa (Ay (hF:=MT bars runs hok hw hrw hn by_ hbl) (h:=Y Aa (Y AH (Y AH (Y Ad (Y Ad (Ac z (Aj (Ev.block (Ab fun _ z=>Y Aa (Y Bn (Y Ad (Ac z (Bh (fun c1=>?_) (fun c1=>?_))))))))))))))))))))))
 ·refine Ab fun _ z=>Y Aa (Y Ad (Y Ad (Y Ad (Ac z (Av (Wk.nsh pairC 7 2) (Ai (IG (⟨?_,rfl⟩))))))));rw [(Sx (bars:=bars) ‹_›).1,(Sx (bars:=bars) ‹_›).2]
 refine Ab fun _ z=>Y Aa (Y (A5 am_el132) (Y Be (Y Ad (Ac z (Az (fun c2=>?_) (fun c2=>?_))))))
 ·omega
 refine Am (Ab fun _ z=>Y Aa (Y Aa (Ay (hF:=DL bars runs hok hw hrw) (h:=Y Aa (Y AH (Y AH (Y Ad (Y Ad (Ac z (Ab fun _ z=>Y Aa (Y Aa (Y Aa (Y Ad (Y Ad (Y Ad (Ac z (Ai (IG (⟨?_,rfl⟩)))))))))))))))))));have he0:Eh runs by_=0:=(by omega);rw [he0,(H6 (bars:=bars) he0).2]
theorem Xx {n:Nat} {runs:List Rn} {by_:List Int} {Aw:List (Int × Int)} {order:List Int} (h:¬ Eh runs by_=0):∃ q:Bool × Int,(q.2=0→q.1=true→Eh runs by_=0∧Es n Aw order)∧AV.tup [bL false,iL (Eh runs by_)]= .tup [bL q.1,iL q.2]∧([]:List (Nat × AM.Obj))=[]:=⟨(false,Eh runs by_),fun h0=>absurd h0 h,rfl,rfl⟩
theorem Qa (bars:List Bar) (runs:List Rn) (hok:BV bars runs) (hw:Ce bars) (hrw:Dw runs) (hn:AR runs≤12) (by_:List Int) (hbl:by_.length≤1000) (order:List Int) (hol:order.length≤1000):Fun Tryz.prog 10 [.sh 5 (bars.map Bar.c), .sh 10 (runs.map Rn.c), .sh 1 (by_.map AD), .sh 1 (order.map AD)] (fun v l=>∃ q:Bool × Int,(q.2=0→q.1=true→Eh runs by_=0∧Es (AR runs).toNat (Aw bars runs by_) order)∧v= .tup [bL q.1,iL q.2]∧l=[]):=by
 have hn1:∀ r ∈ runs,1≤r.n:=fun r hr=>(hok.2.2.1 r hr).2.2.1.1;have hnn:=D4 hn1;have hel:=Mv (bars:=bars) (by_:=by_) hn;have hcn:(((AR runs).toNat:Nat):Int)=AR runs:=Int.toNat_of_nonneg hnn;have hdc:=PI (AR runs).toNat (Aw bars runs by_) (by omega) (by have:=GK (bars:=bars) (by_:=by_) hn;omega) (KW bars runs by_) order hol;rw [hcn] at hdc;refine Fun.of (nt:=30) (rs:=[.tmp 8, .tmp 9]) Tryz.func10 rfl rfl rfl rfl rfl (Ab fun _ z=>Y Ad (Y Ad (Ac z (Ab fun _ z=>Y Aa (Y Aa (Y Aa (Ay (hF:=MZ bars runs hok hw hrw hn by_ hbl) (h:=Y Aa (Y AH (Y AH (Y AH (Y Ad (Y Ad (Y Ad (Ac z (Aj (Ab fun _ z=>Y Aa (Y Bn (Ac z (Bh (fun c1=>?_) (fun c1=>?_)))))))))))))))))))))
 ·refine Ab fun _ z=>Y Aa (Y Ad (Y Ad (Ac z (Ai (Cx ?_)))));skip;exact Xx ‹_›
 refine Am (Ab fun _ z=>Y Aa (Y Aa (Y Aa (Fw (hF:=(by rw [(H6 (bars:=bars) ‹_›).1,(H6 (bars:=bars) ‹_›).2];exact hdc)) (h:=fun qc hq=>(Y AH (Y AH (Y Ad (Y Ad (Ac z (Ai (Cx ?_))))))))))));skip;exact ⟨qc,fun h1 h2=>⟨by omega,hq h1 h2⟩,rfl,rfl⟩
theorem Qb (bars:List Bar) (runs:List Rn) (hok:BV bars runs) (hw:Ce bars) (hrw:Dw runs) (hn:AR runs≤12) (by_:List Int) (hbl:by_.length≤1000) (he0:Eh runs by_=0):Fun Tryz.prog 46 [.sh 5 (bars.map Bar.c), .sh 10 (runs.map Rn.c), .sh 1 (by_.map AD)] (fun v l=>∃ r:List Int × Bool,Ck (AR runs).toNat (Aw bars runs by_) r∧v= .tup [.sh 1 (r.1.map AD),iL (HW r.2)]∧l=[]):=by
 have hn1:∀ r ∈ runs,1≤r.n:=fun r hr=>(hok.2.2.1 r hr).2.2.1.1;have hnn:=D4 hn1;have hel:=Mv (bars:=bars) (by_:=by_) hn;have hcn:(((AR runs).toNat:Nat):Int)=AR runs:=Int.toNat_of_nonneg hnn;have hdc:=K9 (AR runs).toNat (Aw bars runs by_) (by omega) (by have:=GK (bars:=bars) (by_:=by_) hn;omega) (KW bars runs by_);rw [hcn] at hdc;have hgf:=MZ bars runs hok hw hrw hn by_ hbl;rw [he0,(H6 (bars:=bars) he0).1,(H6 (bars:=bars) he0).2] at hgf;refine Fun.of (nt:=27) (rs:=[.tmp 6, .tmp 7]) Tryz.func46 rfl rfl rfl rfl rfl (Ab fun _ z=>Y Ad (Y Ad (Ac z (Ab fun _ z=>Y Aa (Y Aa (Y Aa (Ay (hF:=hgf) (h:=Y Aa (Y AH (Y AH (Y AH (Y Ad (Y Ad (Y Ad (Ac z (Aj (Ab fun _ z=>Y Aa (Y Bn (Ac z (Bh (fun c1=>?_) (fun c1=>?_)))))))))))))))))))))
 ·omega
 refine Am (Ab fun _ z=>Y Aa (Y Aa (Fw (hF:=hdc) (h:=fun r hr=>(Y AH (Y AH (Y Ad (Y Ad (Ac z (Ai (Cx ?_)))))))))));skip;exact ⟨r,hr,rfl,rfl⟩
theorem Hb (l:List (Int)) (hlen:l.length≤1000000):Fun Tryz.prog 56 [.sh 1 (l.map AD)] (AI (.als 0 0 l.length) [(0,⟨true,3,1,l.map AD,true⟩)]):=by
 refine Fun.of (nt:=8) (rs:=[.tmp 2]) Tryz.func56 rfl rfl rfl rfl rfl (Ab fun _ z=>Y Ad (Ac z (Aj (Ab fun _ z=>Y Aa (Vh am_el24 (fun c1 c2=>(Ac z (En (fun c3=>?_) (fun c3=>?_)))))))))
 ·refine Ab fun _ z=>Y Ad (Ac z (Av (Wk.nown AD 2 3 1) (Ai (H4 (⟨?_,?_⟩)))));all_goals rw [List.map_eq_nil_iff.1 (c2 c3)]
 refine Am (Ab fun _ z=>Aq (v:= .als 0 0 ([]:List (Int)).length) (o:=⟨true,3,1,([]:List (Int)).map AD,true⟩) (Bf [] true am_el24 am_ze3 am_cl3) (Y Aa (AW [] am_el24 am_ze3 am_cl3 am_by3 (hh:=A3) (hr:=MC) (h:=Y Ad (Ac z (Ai (H4 (⟨?_,?_⟩))))))));all_goals rfl
theorem Ow (l:List (Int)) (i j:Int) (h0:0≤i) (h1:i < j) (h2:j≤l.length) (hl:l.length≤1000000):FunR Tryz.prog 55 [.als 0 0 l.length,iL i,iL j] [(0,⟨true,3,1,l.map AD,true⟩)] 1
 (AI (.als 1 0 (l.take i.toNat ++ l.drop j.toNat).length) [(1,⟨true,3,1,(l.take i.toNat ++ l.drop j.toNat).map AD,true⟩)]):=by
 refine FunR.of (nt:=33) (rs:=[.tmp 6]) Tryz.func55 rfl rfl rfl rfl rfl (Ab fun _ z=>Y Ad (Ac z (Ab fun _ z=>Y Aa (Y Aa (Y Aa (Y Aa (Y (Fq am_el24) (XY am_el24 am_cl3 (h:=Ac z (Aj (Ab fun _ z=>Y Aa (Y Aa (Y Bk (Ac z (Az (fun c1=>?_) (fun c1=>?_))))))))))))))))
 ·omega
 refine Am (Ab fun _ z=>Y Aa (Y (Fq am_el24) (Y Ad (Ac z (BW (tbs [(0,0),(0,0),(2,3),(0,0),(0,0),(5,24),(6,63),(7,127)]) 6 fun _ z=>Ak Aa (Ak Aa (Ak (R8 am_el24 am_cl3) (Ak Aa (Ak Aa (Ak (R8 am_el24 am_cl3) (B3 [_] (h:=XQ [] am_el24 am_ze3 am_cl3 (h:=Y Ad (Ac z (Ab fun _ z=>Y Aa (Y Aa (Y (Fq am_el24) (Y Aa (XZ am_el24 am_cl3 (h:=XS (0:Int) [] am_el24 am_ze3 am_cl3 (h:=Ac z (Av (Wk.cut 0 [] am_ze3 am_cl3) (Ab fun _ z=>Y Aa (Y Ad (Ac z (Ai (D9 [0,25] (IP (h:=(B5 (h:=BZ)))) (GM rfl) (⟨?_,?_⟩))))))))))))))))))))))))))))
 all_goals first | (refine congrArg (fun q:List (Int)=>AV.als 1 0 q.length) ?_;exact Ov (by omega) (by omega) (by omega) (by omega) (by omega) (by omega) (by omega)) | (refine congrArg (fun q:List (Int)=>[(1,(⟨true,3,1,q.map AD,true⟩:AM.Obj))]) ?_;exact Ov (by omega) (by omega) (by omega) (by omega) (by omega) (by omega) (by omega))
def F9 (l:List Int) (k:Nat):List Int:=(List.range l.length).map fun x=>if x < k∨l.length - k≤x then (l[l.length - 1 - x]?).getD 0 else (l[x]?).getD 0
theorem D3 (l:List Int) (k:Nat):(F9 l k).length=l.length:=by simp [F9]
theorem G4 {l:List Int} {k x:Nat} (h:x < l.length):(F9 l k)[x]?= some (if x < k∨l.length - k≤x then (l[l.length - 1 - x]?).getD 0 else (l[x]?).getD 0):=by simp [F9,h]
theorem Nu (l:List Int):F9 l 0=l:=by
 apply List.ext_getElem?
 intro x
 by_cases h:x < l.length
 ·rw [G4 h,if_neg (by omega),List.getElem?_eq_getElem h];rfl
 rw [List.getElem?_eq_none (by rw [D3];omega),List.getElem?_eq_none (by omega)]
theorem UO {l:List Int} {k:Nat} (h:l.length≤2 * k+1) (hk:k≤l.length):F9 l k=l.reverse:=by
 apply List.ext_getElem?
 intro x
 by_cases hx:x < l.length
 ·rw [G4 hx,List.getElem?_reverse hx]
  split
  ·rw [List.getElem?_eq_getElem (by omega)];rfl
  have:x=l.length - 1 - x:=by omega
  rw [← this,List.getElem?_eq_getElem hx];rfl
 rw [List.getElem?_eq_none (by rw [D3];omega),List.getElem?_eq_none (by rw [List.length_reverse];omega)]
theorem FZ {l:List Int} {k j:Nat} {a b:Int} (hj:j=l.length - 1 - k) (h:k < j) (ha:(F9 l k)[k]?= some a) (hb:(F9 l k)[j]?= some b):((F9 l k).set k b).set j a=F9 l (k+1):=by
 have hl:j < l.length:=by omega
 rw [G4 (by omega),if_neg (by omega)] at ha hb
 apply List.ext_getElem?
 intro x
 by_cases hx:x < l.length
 ·rw [List.getElem?_set,List.getElem?_set,List.length_set,D3]
  by_cases e1:j=x
  ·subst e1;rw [if_pos rfl,if_pos hl,G4 hl,if_pos (by omega), ← ha]
   congr 3
   omega
  rw [if_neg e1]
  by_cases e2:k=x
  ·subst e2;rw [if_pos rfl,if_pos hx,G4 hx,if_pos (by omega), ← hb,hj]
  rw [if_neg e2,G4 hx,G4 hx]
  by_cases e3:x < k∨l.length - k≤x
  ·rw [if_pos e3,if_pos (by omega)]
  rw [if_neg e3,if_neg (by omega)]
 rw [List.getElem?_eq_none (by rw [List.length_set,List.length_set,D3];omega),List.getElem?_eq_none (by rw [D3];omega)]
theorem LW (l:List Int) (hlen:l.length≤1000):FunR Tryz.prog 58 [.als 0 0 l.length] [(0,⟨true,3,1,l.map AD,true⟩)] 1 (AI (.tup []) [(0,⟨true,3,1,l.reverse.map AD,true⟩)]):=by
 refine FunR.of (nt:=28) (rs:=[]) Tryz.func58 rfl rfl rfl rfl rfl (Ab fun _ z=>Y Aa (Y (Fq am_el24) (Y BK (Y Ad (Y Ad (Ac z (Ev.block (AC (ι:={k:Nat // k≤l.length}) [0] [] (fun ⟨k,_⟩=>[(2,iL (k:Int)),(3,iL ((l.length:Int) - 1 - k)),(0, .als 0 0 (F9 l k).length)]) (fun ⟨k,_⟩=>[(0,⟨true,3,1,(F9 l k).map AD,true⟩)]) (fun ⟨k,_⟩=>l.length - k) ⟨0,Nat.zero_le _⟩ .n (Ag (he:=(by rw [Nu]))) (Ae (h:=(Ae (he:=(by congr 2;omega)) (h:=(Ae (he:=(by rw [Nu]))))))) ?_))))))));rintro ⟨k,hk⟩ R0 hR0;dsimp only [cA,nA,lC,lN];have hrl:=D3 l k
 by_cases hkl:(k:Int) < (l.length:Int) - 1 - k
 rotate_left
 ·skip;refine Aj (Ab fun _ z=>Y Aa (Y Aa (Y As (Ac z (Az (fun c1=>?_) (fun c1=>?_))))))
  ·omega
  refine AA (hR0 _ _ ?_)
  show F8 _ _ _ _ Exit.ret _
  refine GG [0] (B5 (h:=BZ)) leads1 (⟨?_,?_⟩)
  all_goals first | rfl | (rw [UO (by omega) (by omega)];done)
 obtain ⟨j,hj⟩:∃ j,j=l.length - 1 - k:=⟨_,rfl⟩
 have hje:(l.length:Int) - 1 - k=(j:Int):=by omega
 obtain ⟨x,hx⟩:∃ x,(F9 l k)[k]?= some x:=⟨_,List.getElem?_eq_getElem (by omega)⟩;obtain ⟨y,hy⟩:∃ y,(F9 l k)[j]?= some y:=⟨_,List.getElem?_eq_getElem (by omega)⟩
 have hsl:((F9 l k).set k y).length=l.length:=by rw [List.length_set,hrl]
 have hy2:((F9 l k).set k y)[j]?= some y:=by rw [List.getElem?_set,if_neg (by omega)];exact hy
 rw [hje];refine Aj (Ab fun _ z=>Y Aa (Y Aa (Y As (Ac z (Az (fun c2=>?_) (fun c2=>?_))))))
 ·refine Am (Aj (Ev.block (Ll (m:=16) (L0:= #[false,false,false,false,false,false,false,false,false,false,false,false,false,false,false,false]) rfl (by kernel_rfl) (by exact rfl) fun _ z=>(CL (i:=0) rfl (h:=(CL (i:=1) rfl (h:=(CL (i:=2) rfl (h:=(CL (i:=3) rfl (h:=(CL (i:=4) rfl (h:=(CL (i:=5) rfl (h:=(CL (i:=8) rfl (h:=(CL (i:=9) rfl (h:=(.done (By (i:=6) (j:=10) trivial rfl rfl (Y (BT am_el24 am_cl3) (Af ?_)) (Y (BT am_el24 am_cl3) (Af ?_)))))))))))))))))))))))
  ·skip;refine By (i:=7) (j:=10) trivial rfl rfl (Y (Ee am_ag3 (hl:=(by exact at_ hy (by omega)))) (Af ?_)) (Y (BT am_el24 am_cl3) (Af ?_))
   ·skip;refine HT.one (i:=10) trivial rfl (Y (BT am_el24 am_cl3) (Af (HT.one (i:=11) trivial rfl (Y (Ee am_ag3 (hl:=(by exact at_ hx (by omega)))) (Af (HT.one (i:=12) trivial rfl (Y (BT am_el24 am_cl3) (Af (HT.one (i:=13) trivial rfl (DH y [] am_in3 am_cl3 (hl:=(by exact at_ hx (by omega))) (h:=Af (HT.one (i:=14) trivial rfl (Y (BT am_el24 am_cl3) (Af (HT.one (i:=15) trivial rfl (DH x [] am_in3 am_cl3 (hl:=(by exact at_ hy2 (by omega))) (h:=Af (Bc trivial (by kernel_rfl) (z _ ?_)))))))))))))))))));show Ev _ _ _ _;refine Ah fun _ z=>Y Aa (Y Ax (Y Aa (Y BK (Y Ad (Y Ad (Ac z (hR0 _ _ (A4 [0] [] ⟨k+1,by omega⟩ ?_ (Ag (he:=(by rw [Int.toNat_natCast,Int.toNat_natCast,FZ hj (by omega) hx hy]))) (Ae (h:=(Ae (he:=(by congr 2;omega)) (h:=(Ae (he:=(by simp [D3]))))))) .n))))))));skip;all_goals (dsimp only;omega)
   skip;refine By (i:=7) (j:=11) trivial rfl rfl (Y (Ee am_ag3 (hl:=(by exact at_ hy (by omega)))) (Af ?_)) (Y (Ee am_ag3 (hl:=(by exact at_ hx (by omega)))) (Af ?_))
   ·skip;refine HT.one (i:=11) trivial rfl (Y (Ee am_ag3 (hl:=(by exact at_ hx (by omega)))) (Af (HT.one (i:=12) trivial rfl (Y (BT am_el24 am_cl3) (Af (HT.one (i:=13) trivial rfl (DH y [] am_in3 am_cl3 (hl:=(by exact at_ hx (by omega))) (h:=Af (HT.one (i:=14) trivial rfl (Y (BT am_el24 am_cl3) (Af (HT.one (i:=15) trivial rfl (DH x [] am_in3 am_cl3 (hl:=(by exact at_ hy2 (by omega))) (h:=Af (Bc trivial (by kernel_rfl) (z _ ?_))))))))))))))));show Ev _ _ _ _;refine Ah fun _ z=>Y Aa (Y Ax (Y Aa (Y BK (Y Ad (Y Ad (Ac z (hR0 _ _ (A4 [0] [] ⟨k+1,by omega⟩ ?_ (Ag (he:=(by rw [Int.toNat_natCast,Int.toNat_natCast,FZ hj (by omega) hx hy]))) (Ae (h:=(Ae (he:=(by congr 2;omega)) (h:=(Ae (he:=(by simp [D3]))))))) .n))))))));skip;all_goals (dsimp only;omega)
   skip;refine HT.one (i:=7) trivial rfl (Y (Ee am_ag3 (hl:=(by exact at_ hy (by omega)))) (Af (HT.one (i:=12) trivial rfl (Y (BT am_el24 am_cl3) (Af (HT.one (i:=13) trivial rfl (DH y [] am_in3 am_cl3 (hl:=(by exact at_ hx (by omega))) (h:=Af (HT.one (i:=14) trivial rfl (Y (BT am_el24 am_cl3) (Af (HT.one (i:=15) trivial rfl (DH x [] am_in3 am_cl3 (hl:=(by exact at_ hy2 (by omega))) (h:=Af (Bc trivial (by kernel_rfl) (z _ ?_))))))))))))))));show Ev _ _ _ _;refine Ah fun _ z=>Y Aa (Y Ax (Y Aa (Y BK (Y Ad (Y Ad (Ac z (hR0 _ _ (A4 [0] [] ⟨k+1,by omega⟩ ?_ (Ag (he:=(by rw [Int.toNat_natCast,Int.toNat_natCast,FZ hj (by omega) hx hy]))) (Ae (h:=(Ae (he:=(by congr 2;omega)) (h:=(Ae (he:=(by simp [D3]))))))) .n))))))));skip;all_goals (dsimp only;omega)
  skip;refine By (i:=6) (j:=11) trivial rfl rfl (Y (BT am_el24 am_cl3) (Af ?_)) (Y (Ee am_ag3 (hl:=(by exact at_ hx (by omega)))) (Af ?_))
  ·skip;refine By (i:=7) (j:=11) trivial rfl rfl (Y (Ee am_ag3 (hl:=(by exact at_ hy (by omega)))) (Af ?_)) (Y (Ee am_ag3 (hl:=(by exact at_ hx (by omega)))) (Af ?_))
   ·skip;refine HT.one (i:=11) trivial rfl (Y (Ee am_ag3 (hl:=(by exact at_ hx (by omega)))) (Af (HT.one (i:=12) trivial rfl (Y (BT am_el24 am_cl3) (Af (HT.one (i:=13) trivial rfl (DH y [] am_in3 am_cl3 (hl:=(by exact at_ hx (by omega))) (h:=Af (HT.one (i:=14) trivial rfl (Y (BT am_el24 am_cl3) (Af (HT.one (i:=15) trivial rfl (DH x [] am_in3 am_cl3 (hl:=(by exact at_ hy2 (by omega))) (h:=Af (Bc trivial (by kernel_rfl) (z _ ?_))))))))))))))));show Ev _ _ _ _;refine Ah fun _ z=>Y Aa (Y Ax (Y Aa (Y BK (Y Ad (Y Ad (Ac z (hR0 _ _ (A4 [0] [] ⟨k+1,by omega⟩ ?_ (Ag (he:=(by rw [Int.toNat_natCast,Int.toNat_natCast,FZ hj (by omega) hx hy]))) (Ae (h:=(Ae (he:=(by congr 2;omega)) (h:=(Ae (he:=(by simp [D3]))))))) .n))))))));skip;all_goals (dsimp only;omega)
   skip;refine HT.one (i:=7) trivial rfl (Y (Ee am_ag3 (hl:=(by exact at_ hy (by omega)))) (Af (HT.one (i:=12) trivial rfl (Y (BT am_el24 am_cl3) (Af (HT.one (i:=13) trivial rfl (DH y [] am_in3 am_cl3 (hl:=(by exact at_ hx (by omega))) (h:=Af (HT.one (i:=14) trivial rfl (Y (BT am_el24 am_cl3) (Af (HT.one (i:=15) trivial rfl (DH x [] am_in3 am_cl3 (hl:=(by exact at_ hy2 (by omega))) (h:=Af (Bc trivial (by kernel_rfl) (z _ ?_))))))))))))))));show Ev _ _ _ _;refine Ah fun _ z=>Y Aa (Y Ax (Y Aa (Y BK (Y Ad (Y Ad (Ac z (hR0 _ _ (A4 [0] [] ⟨k+1,by omega⟩ ?_ (Ag (he:=(by rw [Int.toNat_natCast,Int.toNat_natCast,FZ hj (by omega) hx hy]))) (Ae (h:=(Ae (he:=(by congr 2;omega)) (h:=(Ae (he:=(by simp [D3]))))))) .n))))))));skip;all_goals (dsimp only;omega)
  skip;refine HT.one (i:=6) trivial rfl (Y (BT am_el24 am_cl3) (Af (HT.one (i:=7) trivial rfl (Y (Ee am_ag3 (hl:=(by exact at_ hy (by omega)))) (Af (HT.one (i:=12) trivial rfl (Y (BT am_el24 am_cl3) (Af (HT.one (i:=13) trivial rfl (DH y [] am_in3 am_cl3 (hl:=(by exact at_ hx (by omega))) (h:=Af (HT.one (i:=14) trivial rfl (Y (BT am_el24 am_cl3) (Af (HT.one (i:=15) trivial rfl (DH x [] am_in3 am_cl3 (hl:=(by exact at_ hy2 (by omega))) (h:=Af (Bc trivial (by kernel_rfl) (z _ ?_)))))))))))))))))));show Ev _ _ _ _;refine Ah fun _ z=>Y Aa (Y Ax (Y Aa (Y BK (Y Ad (Y Ad (Ac z (hR0 _ _ (A4 [0] [] ⟨k+1,by omega⟩ ?_ (Ag (he:=(by rw [Int.toNat_natCast,Int.toNat_natCast,FZ hj (by omega) hx hy]))) (Ae (h:=(Ae (he:=(by congr 2;omega)) (h:=(Ae (he:=(by simp [D3]))))))) .n))))))));skip;all_goals (dsimp only;omega)
 omega
theorem Ok (l:List Int):Fun Tryz.prog 54 [.sh 1 (l.map AD)] (AI (.fn (.func 158) [] [.sadr [.sh 1 (l.map AD)] 0]) []):=by
 refine Fun.of (nt:=4) (rs:=[.tmp 2]) Tryz.func54 rfl rfl rfl rfl rfl (Ab fun _ k=>Aq (Bo _ true) (Y Ad (Ac k (Av (Wk.frzv 1 []) (Ab fun _ k=>Y EE (Y Ad (Ac k (Ai (Ap ?_)))))))));rfl
def YW (l:List Int) (pre:List (Int × Int)) (x:Int × Int) (Z Z':Nat→Prop) (A:World):Prop:=x.1=(l.length:Int) - 1 - pre.length∧0≤x.1∧l[x.1.toNat]?= some x.2
theorem Ol (l:List Int) (hl:l.length≤1000):SeqRH Tryz.prog 158 [.sadr [.sh 1 (l.map AD)] 0] [] 0 (fun x:Int × Int=> #[.int .i64 x.1, .int .i64 x.2]) (fun xs=>xs.length=l.length) (fun _=>True) (YW l):=by
 refine SeqRH.of (nt:=19) Tryz.func158 rfl rfl rfl rfl rfl ?_;intro l0 S0 J hRndH;have hRnd:=hRndH.plain;refine CX fun _ k=>Y (AO am_ag24) (Y (A5 am_el24) (Y BK (Y Ad (Ac k (EvY.block (If (κ:={els:List (Int × Int) // els.length≤l.length}) (fun p=>(true,p.1)) [] [0,1] (fun ⟨els,_⟩=>[(3,iL ((l.length:Int) - 1 - els.length))]) (fun ⟨els,_⟩=>[]) (fun ⟨els,_⟩=>l.length - els.length) ⟨[],Nat.zero_le _⟩ (.c (.c .n)) AN (Ae (he:=(by congr 2;simp))) rfl ?_))))));rintro ⟨els,hel⟩ R0 hR0
 try dsimp only [cA,nA,lC,lN]
 by_cases hkl:els.length < l.length
 rotate_left
 ·skip;refine DK (CX fun _ k=>Y Aa (Y BR (Ac k (Ln (fun c1=>?_) (fun c1=>?_)))))
  ·omega
  refine Jb (hR0 _ _ _ ?_);exact ⟨.inl rfl,fun _=>(show els.length=l.length by omega),fun h=>by cases h⟩
 obtain ⟨v,hv⟩:∃ v,l[((l.length:Int) - 1 - els.length).toNat]?= some v:=⟨_,List.getElem?_eq_getElem (by omega)⟩;refine DK (CX fun _ k=>Y Aa (Y BR (Ac k (Ln (fun c2=>?_) (fun c2=>?_)))))
 ·refine H9 (DK (EvY.block (QC hRnd 6 ((l.length:Int) - 1 - els.length,v) (fun _ _=>⟨rfl,by dsimp only;omega,hv⟩) rfl fun _ k=>?_)));simp only [List.take_succ_cons,List.take_zero];refine Y Aa (Y Aa (Y (AO am_ag24) (Y Aa (Y (AQ am_el24 am_cl3 (hl:=(by exact Ba hv (by omega)))) (Y (AO am_ag3) (Ac k (⟨rfl,⟨[_,_],rfl,rfl⟩,Nat.le_of_ble_eq_true rfl,?_,?_⟩)))))))
  ·refine SeqL.k fun _ k=>?_;simp only [List.drop_succ_cons,List.drop_zero,St.put];refine Y IT (Ac k (Sb (H9 (Eo fun _ k=>Y Aa (Y BK (Y Ad (Ac k (hR0 _ _ _ (IV [] [0,1] ⟨els ++ [((l.length:Int) - 1 - els.length,v)],by rw [List.length_append];simp only [List.length_cons,List.length_nil];omega⟩ ?_ AN (Ae (he:=(by congr 2;rw [List.length_append];simp only [List.length_cons,List.length_nil];omega))) (.c (.c .n)) rfl)))))))));skip;all_goals (dsimp only;rw [List.length_append];simp only [List.length_cons,List.length_nil];omega)
  refine SeqL.k fun _ k=>?_;simp only [List.drop_succ_cons,List.drop_zero,St.put];refine Y LU (Ac k (Sc (Qg (hR0 _ _ _ ?_))));exact ⟨.inr rfl,fun h=>(by cases h),fun _=>trivial⟩
 omega
def CC (n:Nat):List Int:=(List.range n).map fun (i:Nat)=>(i:Int)
theorem Dk {n:Nat} {i:Int}:i ∈ CC n↔0≤i∧i < n:=by
 unfold CC
 rw [List.mem_map]
 constructor
 ·rintro ⟨k,hk,rfl⟩;have:=List.mem_range.1 hk;omega
 rintro h;exact ⟨i.toNat,List.mem_range.2 (by omega),by omega⟩
theorem Fr (n:Nat):(CC n).Nodup:=List.Pairwise.map _ (fun a b hab e=>hab (by omega)) List.nodup_range
theorem Ds (n:Nat):(CC n).length=n:=by simp [CC]
theorem GC (n:Nat):CC (n+1)=CC n ++ [(n:Int)]:=by simp [CC,List.range_succ]
def DQ (l:List Int) (a:Nat):List Int:=l.take a ++ l.drop (a+1)
theorem G9 {l:List Int} {a:Nat} {i:Int} (h:l[a]?= some i):l.Perm (i :: DQ l a):=by
 obtain ⟨hl,he⟩:=List.getElem?_eq_some_iff.1 h
 have e:l=l.take a ++ i :: l.drop (a+1):=by rw [← he,List.getElem_cons_drop,List.take_append_drop]
 unfold DQ
 exact (List.Perm.of_eq e).trans List.perm_middle
theorem QY {l:List Int} {a:Nat} (h:a < l.length):(DQ l a).length+1=l.length:=by
 unfold DQ
 rw [List.length_append,List.length_take,List.length_drop];omega
def FI (bars:List Bar) (runs:List Rn) (N:Nat) (left order axes:List Int):Prop :=
 (order ++ left).Perm (CC N)∧axes.length=N∧∀ pre k suf,order=pre ++ k :: suf→∃ ax,axes[k.toNat]?= some ax∧ax ∈ six∧∀ x ∈ suf ++ left,¬ Ep bars runs k x ax
def Ki (bars:List Bar) (runs:List Rn) (N:Nat):Prop:=∃ U:List Int,U≠[]∧U.Nodup∧(∀ u ∈ U,0≤u∧u < N)∧∀ u ∈ U,∀ ax ∈ six,∃ x ∈ U,x≠u∧Ep bars runs u x ax
def OS (bars:List Bar) (runs:List Rn) (N:Nat) (o a:List Int):Prop:=o.Perm (CC N)∧a.length=N∧∀ pre k suf,o=pre ++ k :: suf→∃ ax,a[k.toNat]?= some ax∧ax ∈ six∧∀ x ∈ pre,¬ Ep bars runs k x ax
def My (bars:List Bar) (runs:List Rn) (N:Nat) (r:List Int × List Int × Int):Prop:=(r.2.2=0→OS bars runs N r.1 r.2.1)∧(r.2.2≠0→r.2.2=23∧r.1=[]∧Ki bars runs N)
theorem V6 (bars:List Bar) (runs:List Rn) (N:Nat):FI bars runs N (CC N) [] (List.replicate N 0):=⟨.refl _,List.length_replicate,fun pre k suf h=>absurd h (by simp)⟩
theorem WA {bars:List Bar} {runs:List Rn} {N:Nat} {left order axes:List Int} (h:FI bars runs N left order axes):left.length≤N∧order.length≤N:=by
 have:=h.1.length_eq;rw [List.length_append,Ds] at this;omega
theorem KQ {bars:List Bar} {runs:List Rn} {N:Nat} {left order axes:List Int} {a:Nat} {i:Int} (h:FI bars runs N left order axes) (ha:left[a]?= some i):(0≤i∧i < N)∧G6 N i (DQ left a):=by
 have hnd:(order ++ left).Nodup:=h.1.nodup_iff.2 (Fr N);rw [List.nodup_append] at hnd;have hl2:=(G9 ha).nodup_iff.1 hnd.2.1;rw [List.nodup_cons] at hl2;have hin:∀ k ∈ left,0≤k∧k < N:=fun k hk=>Dk.1 (h.1.mem_iff.1 (by simp [hk]));refine ⟨hin i (List.mem_of_getElem? ha),fun k hk=>?_,hl2.2⟩;have hk2:=hin k ((G9 ha).mem_iff.2 (by simp [hk]));exact ⟨hk2.1,hk2.2,fun e=>hl2.1 (e ▸ hk)⟩
theorem Vc {bars:List Bar} {runs:List Rn} {i:Int} {l:List Int} {ax:Int} (h:ax ∈ Em bars runs i l six):ax ∈ six∧∀ x ∈ l,¬ Ep bars runs i x ax:=by
 unfold Em at h
 rw [List.mem_filter] at h;refine ⟨h.1,fun x hx hb=>?_⟩;have h2:=of_decide_eq_true h.2;have:x ∈ EQ bars runs i ax l:=List.mem_filter.2 ⟨hx,decide_eq_true hb⟩;rw [List.eq_nil_of_length_eq_zero h2] at this
 cases this
theorem TC {bars:List Bar} {runs:List Rn} {i:Int} {l:List Int} (h:Em bars runs i l six=[]) {ax:Int} (ha:ax ∈ six):∃ x ∈ l,Ep bars runs i x ax:=by
 unfold Em at h
 have h1:=List.filter_eq_nil_iff.1 h ax ha;rw [decide_eq_true_eq] at h1;obtain ⟨x,hx⟩:=List.exists_mem_of_length_pos (l:=EQ bars runs i ax l) (by omega)
 unfold EQ at hx
 rw [List.mem_filter] at hx;exact ⟨x,hx.1,of_decide_eq_true hx.2⟩
theorem V7 {bars:List Bar} {runs:List Rn} {N:Nat} {left order axes:List Int} {a:Nat} {i w:Int} (h:FI bars runs N left order axes) (ha:left[a]?= some i) (hw:w ∈ Em bars runs i (DQ left a) six):FI bars runs N (DQ left a) (order ++ [i]) (axes.set i.toNat w):=by
 obtain ⟨⟨hi0,hi1⟩,ht⟩:=KQ h ha;obtain ⟨hw1,hw2⟩:=Vc hw;have hp:=G9 ha;have hnd:(order ++ left).Nodup:=h.1.nodup_iff.2 (Fr N);refine ⟨?_,by rw [List.length_set];exact h.2.1,fun pre k suf he=>?_⟩
 ·refine List.Perm.trans ?_ h.1;rw [List.append_assoc];exact (List.Perm.append_left order hp).symm
 rcases List.eq_nil_or_concat suf with rfl | ⟨suf',z,rfl⟩
 ·obtain ⟨rfl,h4⟩:=List.append_inj' he rfl;simp only [List.cons.injEq,and_true] at h4;subst h4;refine ⟨w,by rw [List.getElem?_set,if_pos rfl,if_pos (by rw [h.2.1];omega)],hw1,fun x hx=>hw2 x (by simpa using hx)⟩
 have h3:order ++ [i]=(pre ++ k :: suf') ++ [z]:=by rw [he];simp
 obtain ⟨h5,h6⟩:=List.append_inj' h3 rfl;simp only [List.cons.injEq,and_true] at h6;subst h6;obtain ⟨ax,h7,h8,h9⟩:=h.2.2 pre k suf' h5
 have hko:k ∈ order:=by rw [h5];simp
 have hki:k≠i:=fun e=>by
  rw [List.nodup_append] at hnd;exact hnd.2.2 k hko i (List.mem_of_getElem? ha) e
 have hk0:0≤k:=(Dk.1 (h.1.mem_iff.1 (by simp [hko]))).1;refine ⟨ax,by rw [List.getElem?_set,if_neg (by omega)];exact h7,h8,fun x hx=>h9 x ?_⟩;rw [List.mem_append] at hx ⊢
 rcases hx with hx | hx
 ·have hx':x ∈ suf'∨x=i:=by simpa using hx
  rcases hx' with hx | rfl
  ·exact .inl hx
  exact .inr (List.mem_of_getElem? ha)
 exact .inr (hp.mem_iff.2 (by simp [hx]))
theorem TP {bars:List Bar} {runs:List Rn} {N:Nat} {left order axes:List Int} (h:FI bars runs N left order axes) (hne:0 < left.length) (hG:∀ (a:Nat) (i:Int),left[a]?= some i→Em bars runs i (DQ left a) six=[]):Ki bars runs N:=by
 have hnd:(order ++ left).Nodup:=h.1.nodup_iff.2 (Fr N);rw [List.nodup_append] at hnd;refine ⟨left,fun e=>by rw [e] at hne;simp at hne,hnd.2.1,fun u hu=>Dk.1 (h.1.mem_iff.1 (by simp [hu])),fun u hu ax hax=>?_⟩;obtain ⟨a,ha⟩:=List.getElem?_of_mem hu;obtain ⟨x,hx,hb⟩:=TC (hG a u ha) hax;exact ⟨x,(G9 ha).mem_iff.2 (by simp [hx]),((KQ h ha).2.1 x hx).2.2,hb⟩
theorem W9 {bars:List Bar} {runs:List Rn} {N:Nat} {order axes:List Int} (h:FI bars runs N [] order axes):OS bars runs N order.reverse axes:=by
 have h1:=h.1;rw [List.append_nil] at h1;refine ⟨(List.reverse_perm order).trans h1,h.2.1,fun pre k suf he=>?_⟩
 have e:order=suf.reverse ++ k :: pre.reverse:=by rw [← List.reverse_reverse order,he];simp
 obtain ⟨ax,h2,h3,h4⟩:=h.2.2 suf.reverse k pre.reverse e;exact ⟨ax,h2,h3,fun x hx=>h4 x (by simp [hx])⟩
theorem Wo {K:St→Prop} {Q:Exit→St→Prop} {i:Nat} {σ:St} (h:Q (.exit i) σ):GF K Q (.exit i) σ:=h
theorem VP {bars:List Bar} {runs:List Rn} {N:Nat} (h:Ki bars runs N):∃ r:List Int × List Int × Int,My bars runs N r∧AV.tup [.sh 1 (([]:List Int).map AD), .sh 1 (([]:List Int).map AD),iL 23]= .tup [.sh 1 (r.1.map AD), .sh 1 (r.2.1.map AD),iL r.2.2]∧([]:List (Nat × AM.Obj))=[]:=⟨([],[],23),⟨fun h=>absurd (show (23:Int)=0 from h) (by decide),fun _=>⟨rfl,rfl,h⟩⟩,rfl,rfl⟩
theorem Uf (bars:List Bar) (runs:List Rn) (hok:BV bars runs) (hw:Ce bars) (hrw:Dw runs) (hn:AR runs≤12):Fun Tryz.prog 8 [.sh 5 (bars.map Bar.c), .sh 10 (runs.map Rn.c)] (fun v l=>∃ r:List Int × List Int × Int,My bars runs (AR runs).toNat r∧v= .tup [.sh 1 (r.1.map AD), .sh 1 (r.2.1.map AD),iL r.2.2]∧l=[]):=by
 have hn1:∀ r ∈ runs,1≤r.n:=fun r hr=>(hok.2.2.1 r hr).2.2.1.1;have hnn:=D4 hn1;obtain ⟨N,hN⟩:∃ N:Nat,AR runs=N:=⟨(AR runs).toNat,by omega⟩;have hcf:=DL bars runs hok hw hrw;have hwf:=fun (i:Int) (there:List Int) (h0:0≤i) (h1:i < AR runs) (ht:G6 (AR runs) i there) (htl:there.length≤2000)=>Vb bars runs hok hw hrw (by omega) i there h0 h1 ht htl;rw [hN] at hcf hwf hn ⊢;rw [Int.toNat_natCast];refine Fun.ofD (nt:=84) (rs:=[.cell 4 24, .cell 5 24, .cell 6 27]) Tryz.func8 rfl rfl rfl rfl rfl (EvD.split (Ah fun _ z=>Aq (Bo [_] true) (Aq (Bo [_] true) (Aq (AT am_ze24) (Aq (AT am_ze24) (Aq (AT am_ze27) (Ac z ?_)))))));show EvD _ _ _ _;refine EvD.scope (EvD.split (Av (Wk.frzv 2 [_,_,_,_]) (Av (Wk.frzv 3 [_,_,_]) (Ah fun _ z=>Y (AO am_ag22) (Y (AO am_ag23) (Ay (hF:=hcf) (h:=Y Aa (Y AH (Y AH (Y Ad (Y Ad (Ac z ?_))))))))))));show EvD _ _ _ _;refine EvD.split (Ev.block (Ab fun _ z=>Y Aa (Y Bn (Y Ad (Ac z (Bh (fun c1=>?_) (fun c1=>?_)))))))
 ·omega
 refine Ab fun _ z=>Y Aa (Y Be (Y Ad (Ac z (Az (fun c2=>?_) (fun c2=>?_)))))
 ·omega
 refine Am (EvD.split (Ah fun _ z=>Aq (AT am_ze24) (Aq (AT am_ze24) (Ac z ?_))));show EvD _ _ _ _;refine EvD.split (Av (Wk.nilv (f:=AD) 5 0 3 1 [_,_,_,_]) (Ab fun _ z=>Y Aa (Y Aa (Ac z (Ev.block (AC (ι:={k:Nat // k≤N}) [5,7,6,2,3,4] [0,1,2,3,4,5,6,7,8,9,10,18,19,20,21,22,23,24,25,26,28,29,30,31] (fun ⟨k,_⟩=>[(32,iL (k:Int))]) (fun ⟨k,_⟩=>[(0,⟨false,24,1,[[.als 1 0 (CC k).length]],false⟩),(1,⟨true,3,1,(CC k).map AD,true⟩),(2,⟨false,24,1,[[.lit (.slice none 0 0)]],true⟩),(3,⟨false,24,1,[[.lit (.slice none 0 0)]],true⟩),(4,⟨false,24,1,[[.lit (.slice none 0 0)]],true⟩),(5,⟨false,27,1,[[iL (0)]],true⟩)]) (fun ⟨k,_⟩=>N - k) ⟨0,Nat.zero_le _⟩ (.c (.c (.c (.c (.c (.c (.c (.c (.c (.c (.c (.c (.c (.c (.c (.c (.c (.c (.c (.c (.c (.c (.c (.c .n)))))))))))))))))))))))) (Bd (h:=(Ag (h:=(Ag (h:=(Ag (h:=(Ag (h:=(Ag))))))))))) (Ae) ?_))))));rintro ⟨k,hk⟩ R1 hR1;dsimp only [cA,nA,lC,lN];have hrl:=Ds k
 by_cases hkl:k < N
 rotate_left
 ·have hkn:k=N:=by omega
  subst k;refine Ab fun _ z=>Y As (Ac z (AG (fun c3=>?_) (fun c3=>?_)))
  ·omega
  refine AA (hR1 _ _ (EvD.split (Av (Wk.frzC (f:=AD) _ 0 0 [_,_,_,_]) (Av (Wk.nilv (f:=AD) 2 0 3 1 [_,_,_,_]) (Ah fun _ z=>Y Aa (Ih (f:=AD) (0) am_el24 am_ze3 am_cl3 am_by3 (h:=Aq (AT am_ze24) (Ar [_] false [_,_,_,_,_,_,_] am_in24 am_cl24 (h:=Ac z ?_)))))))));show EvD _ _ _ _;refine EvD.split (NZ (EvD.seq (EvD.block (EvD.loopU (ι:={q:List Int × List Int × List Int // FI bars runs N q.1 q.2.1 q.2.2}) [0,2,6,8,7,3,4,5] [2,3,4,5,6,9,10,12] (fun ⟨(left,order,axes),_⟩=>[]) (fun ⟨(left,order,axes),_⟩=>[(0,⟨false,24,1,[[.sh 1 ((left).map AD)]],true⟩),(1,⟨false,24,1,[[.als 2 0 (order).length]],false⟩),(2,⟨true,3,1,(order).map AD,true⟩),(3,⟨false,24,1,[[.als 4 0 (axes).length]],false⟩),(4,⟨true,3,1,(axes).map AD,true⟩),(5,⟨false,24,1,[[.lit (.slice none 0 0)]],true⟩),(6,⟨false,24,1,[[.lit (.slice none 0 0)]],true⟩),(7,⟨false,27,1,[[iL (0)]],true⟩)]) (fun ⟨(left,order,axes),_⟩=>left.length) ⟨(CC N,[],List.replicate N 0),V6 bars runs N⟩ (.c (.c (.c (.c (.c (.c (.c (.c .n)))))))) (Ag (h:=(Bd (h:=(Ag (h:=(Bd (h:=(Ag (h:=(Ag (h:=(Ag (h:=(Ag))))))))))))))) trivial ?_))));rintro ⟨⟨left,order,axes⟩,hfi⟩ R3 hR3;dsimp only [cA,nA,lC,lN]
  dsimp only at hfi
  obtain ⟨hll,hol⟩:=WA hfi;have hal0:=hfi.2.1
  by_cases hlp:0 < left.length
  rotate_left
  ·skip;refine EvD.split (Ab fun _ z=>Y (Ao am_ag24) (Y (A5 am_el24) (Y Be (Ac z (Az (fun c4=>?_) (fun c4=>?_))))))
   ·omega
   refine AA (hR3 _ _ (EvD.of (Ab fun _ z=>Y (Ao am_ag24) (Cs [2] _ [_,_,_,_,_,_,_,_] (hob:=(Ag)) (hF:=LW _ (by omega)) (hn':=HE (by decide)) (h:=Ac z (Av (Wk.frzC (f:=AD) _ 1 0 [_,_,_,_,_,_]) (Av (Wk.frzC (f:=AD) _ 3 0 [_,_,_,_,_]) (Av (Wk.frzv 10 [_,_,_,_,_]) (Av (Wk.frzv 12 [_,_,_,_]) (J8 (m:=5) (L0:= #[false,false,false,false,false]) rfl (by kernel_rfl) (by exact rfl) fun _ z=>(EZ (i:=0) am_ag24 rfl (h:=(EZ (i:=1) am_ag24 rfl (h:=(.done (HT.one (i:=2) trivial rfl (Ar [_] true [_,_,_] am_in24 am_cl24 (h:=Af (HT.one (i:=3) trivial rfl (Ar [_] true [_,_,_] am_in24 am_cl24 (h:=Af (HT.one (i:=4) trivial rfl (Ar [_] true [_,_,_] am_in27 am_cl27 (h:=Af (Bc trivial (by kernel_rfl) (z _ (Av (Wk.nshr [[2]] 5 [_,_,_]) (Av (Wk.nshr [[2]] 6 [_,_,_]) (Ai (Df (Hy am_ag24 (Hy am_ag24 (Hy am_ag27 res_n))) ?_))))))))))))))))))))))))))))));skip;exact ⟨(order.reverse,axes,0),⟨fun _=>W9 (by rw [← List.eq_nil_of_length_eq_zero (show left.length=0 by omega)];exact hfi),fun h=>absurd rfl h⟩,rfl,rfl⟩
  skip;refine EvD.split (Ab fun _ z=>Y (Ao am_ag24) (Y (A5 am_el24) (Y Be (Ac z (Az (fun c5=>?_) (fun c5=>?_))))))
  ·refine Am (EvD.block (EvD.seq (EvD.split (Ah fun _ z=>Y (Ao am_ag24) (Ay (hF:=Ok left) (h:=Ac z ?_))))));show EvD _ _ _ _;refine EvD.block (EvD.weaken (WM [0,1,3,5,6,7,2,4] [2,3] [(46, .fn (.func 158) [] [.sadr [.sh 1 (left.map AD)] 0]),(9, .adr 0 0 0),(10, .adr 1 0 0),(12, .adr 2 0 0),(4, .adr 3 0 0),(5, .adr 4 0 0),(6, .adr 5 0 0)] [(0,⟨false,24,1,[[.sh 1 ((left).map AD)]],true⟩),(1,⟨false,24,1,[[.als 6 0 (order).length]],false⟩),(2,⟨false,24,1,[[.als 7 0 (axes).length]],false⟩),(3,⟨false,24,1,[[.lit (.slice none 0 0)]],true⟩),(4,⟨false,24,1,[[.lit (.slice none 0 0)]],true⟩),(5,⟨false,27,1,[[iL 0]],true⟩),(6,⟨true,3,1,(order).map AD,true⟩),(7,⟨true,3,1,(axes).map AD,true⟩)] (.c (.c .n)) (Ag (h:=(Bd (h:=(Bd (h:=(Ag (h:=(Ag (h:=(Ag (h:=(Ag (h:=(Ag))))))))))))))) (Ae (h:=(Ae (h:=(Ae (h:=(Ae (h:=(Ae (h:=(Ae (h:=(Ae)))))))))))))) ?_);dsimp only [cA,nA,lC,lN]
   refine EvD.range (ps:=[47,48]) (K:=6) [] (fun pre=>pre.length≤left.length∧∀ (a:Nat) (i:Int),left.length - pre.length≤a→left[a]?= some i→Em bars runs i (DQ left a) six=[]) (fun _=>[(0,⟨false,24,1,[[.sh 1 ((left).map AD)]],true⟩),(1,⟨false,24,1,[[.als 6 0 (order).length]],false⟩),(2,⟨false,24,1,[[.als 7 0 (axes).length]],false⟩),(3,⟨false,24,1,[[.lit (.slice none 0 0)]],true⟩),(4,⟨false,24,1,[[.lit (.slice none 0 0)]],true⟩),(5,⟨false,27,1,[[iL 0]],true⟩),(6,⟨true,3,1,(order).map AD,true⟩),(7,⟨true,3,1,(axes).map AD,true⟩)]) (fun x=>[iL x.1,iL x.2]) (fun c _ o=>c= .exit 4∧∃ l2 o2 a2,FI bars runs N l2 o2 a2∧l2.length < left.length∧o=[(0,⟨false,24,1,[[.sh 1 ((l2).map AD)]],true⟩),(1,⟨false,24,1,[[.als 6 0 (o2).length]],false⟩),(2,⟨false,24,1,[[.als 7 0 (a2).length]],false⟩),(3,⟨false,24,1,[[.lit (.slice none 0 0)]],true⟩),(4,⟨false,24,1,[[.lit (.slice none 0 0)]],true⟩),(5,⟨false,27,1,[[iL 0]],true⟩),(6,⟨true,3,1,(o2).map AD,true⟩),(7,⟨true,3,1,(a2).map AD,true⟩)]) ((Ol left (by omega))) rfl rfl rfl (by decide) rfl (fun r q h=>⟨h,by simp⟩) (fun pre r hr=>by rcases r with _ | _ | _ | _ | _ | _ | _ | _ | r <;> first | exact ⟨_,rfl⟩ | omega) (((((((((stays.nil _).c rfl).c rfl).c rfl).c rfl).c rfl).c rfl).c rfl).c rfl) (by decide) (fun _=>rfl) (fun pre x Z Z' A h=>⟨⟨A,fun _=> .pointer none,fun _=>0,fun _=>False,fun _=>False⟩,rfl,fun b hb=>hb.elim,by simp [FVs,FV]⟩) ⟨Nat.zero_le _,fun a i ha hi=>absurd (List.getElem?_eq_some_iff.1 hi).1 (by simp only [List.length_nil] at ha;omega)⟩ ?_ ?_ ?_ ?_
   ·intro l0 m0 pre x hG hx;obtain ⟨at_,i⟩:=x;obtain ⟨Z,Z',A,hx1,hx2,hx3⟩:=hx
    dsimp only at hx1 hx2 hx3 hG ⊢
    obtain ⟨a,ha⟩:∃ a:Nat,at_=a:=⟨at_.toNat,by omega⟩;subst ha;rw [Int.toNat_natCast] at hx3;obtain ⟨⟨hi0,hi1⟩,hth⟩:=KQ hfi hx3;have hal:a < left.length:=(List.getElem?_eq_some_iff.1 hx3).1
    have hdj:(a:Int)+1≤left.length:=by omega
    have hdl:left.length≤1000000:=by omega
    obtain ⟨a0,ha0⟩:∃ a0,axes[i.toNat]?= some a0:=⟨_,List.getElem?_eq_getElem (by rw [hal0];omega)⟩;have hel:=QY hal
    have hee:left.take (a:Int).toNat ++ left.drop ((a:Int)+1).toNat=DQ left a:=by rw [Int.toNat_natCast,show ((a:Int)+1).toNat=a+1 by omega];rfl
    obtain ⟨ws,hws⟩:∃ ws,ws=Em bars runs i (DQ left a) six:=⟨_,rfl⟩;have hwl:=N4 bars runs i (DQ left a) six;have hwf2:=hwf i (DQ left a) hi0 (by omega) hth (by omega);rw [← hws] at hwf2 hwl;show EvI _ _ _ _ _ _;refine Ge fun _ z=>Y Ad (Ac z (J9 fun _ z=>Y Ad (Ac z (⟨rfl,rfl,?_⟩))));refine EvI.block (Ge fun _ z=>Y (Ao am_ag24) (Oe (hF:=Hb left (by omega)) (h:=Y Aa (Y Aa (Y Ax (Cs [8] 10 [_,_,_,_,_,_,_,_,_] (hob:=(Ag)) (hF:=Ow left (a:Int) ((a:Int)+1) (Int.natCast_nonneg a) (Int.lt_succ _) hdj hdl) (hn':=B7 rfl rfl) (h:=Y Ad (Ac z (Q8 (Wk.frz 15 [_,_,_,_,_,_,_,_]) (Ge fun _ z=>Y (AO am_ag22) (Y (AO am_ag23) (Y Aa (Y Aa (Ay (hF:=hwf2) (h:=Y Aa (Y AH (Y AH (Y Ad (Y Ad (Ac z (Mm (Ge fun _ z=>Y Aa (Y Bn (Ac z (W8 (fun c6=>?_) (fun c6=>?_))))))))))))))))))))))))))
    ·omega
    refine KO (Ge fun _ z=>Y Aa (Y (A5 am_el24) (Y Be (Ac z (Sa (fun c7=>?_) (fun c7=>?_))))))
    ·obtain ⟨w0,hw00⟩:∃ w0,ws[0]?= some w0:=⟨_,List.getElem?_eq_getElem (by omega)⟩;have hw0:w0 ∈ ws:=List.mem_of_getElem? hw00;refine V5 (m:=9) (L0:= #[false,false,false,false,false,false,false,false,false]) rfl (by kernel_rfl) (by exact rfl) fun _ z=>(CL (i:=1) rfl (h:=(CL (i:=2) rfl (h:=(XL (i:=3) am_el24 am_cl3 (by decide) rfl (hl:=(by exact Ba hw00 (by omega))) (h:=(EZ (i:=4) am_ag3 rfl (h:=(CL (i:=5) rfl (h:=(.done (HT.one (i:=0) trivial rfl (Y (Ao am_ag24) (Af (HT.one (i:=6) trivial rfl (Y (BT am_el24 am_cl3) (Af (HT.one (i:=7) trivial rfl (DH w0 [_,_,_,_,_,_,_] am_in3 am_cl3 (hl:=(by exact at_ ha0 (by omega))) (h:=Af (HT.one (i:=8) trivial rfl (Ar [_] true [_,_,_,_,_,_,_] am_in24 am_cl24 (h:=Af (Bc trivial (by kernel_rfl) (z _ (Ge fun _ z=>Y (Ao am_ag24) (Y Aa (Aq (Bf [[_]] true am_el24 am_ze3 am_cl3) (AW [_,_,_,_,_,_,_,_] am_el24 am_ze3 am_cl3 am_by3 (hh:=A3) (hr:=(A7 [i])) (h:=Ar [_] false [_,_,_,_,_,_,_,_] am_in24 am_cl24 (h:=Ac z (TL (Vr ?_)))))))))))))))))))))))))))))))))
     show Fs _ _ _ _ _ _ _ (.exit 4) _
     refine UQ [0,1,2,3,4,5,11,7] (B5 (h:=(CO (h:=(CO (h:=(B5 (h:=(B5 (h:=(B5 (h:=(B5 (h:=(B5 (h:=BZ)))))))))))))))) rfl (by decide) (GM rfl) (⟨rfl,DQ left a,order ++ [i],axes.set i.toNat w0,V7 hfi hx3 (hws ▸ hw0),by omega,?_⟩);rw [hee,List.length_set]
    refine KO (Vq ?_)
    show Fs _ _ _ _ _ _ _ .normal _
    refine Pf [0,1,2,3,4,5,6,7] ⟨by rw [List.length_append];simp only [List.length_cons,List.length_nil];omega,fun b j hb hj=>(by rw [List.length_append] at hb;simp only [List.length_cons,List.length_nil] at hb;exact (if e:b=a then (by subst e;rw [hx3] at hj;cases hj;rw [← hws];exact List.eq_nil_of_length_eq_zero (by omega)) else hG.2 b j (by omega) hj))⟩ (B5 (h:=(CO (h:=(CO (h:=(B5 (h:=(B5 (h:=(B5 (h:=(B5 (h:=(B5 (h:=BZ)))))))))))))))) rfl (by decide) (GM rfl)
   ·intro xs hS hG;have hst:Ki bars runs N:=TP hfi (by omega) (fun b j hj=>hG.2 b j (by have hS1:xs.length=left.length:=hS;omega) hj);show EvD _ _ _ _;refine EvD.of (Ab fun _ z=>Ar [_] true [_,_,_,_,_,_,_] am_in24 am_cl24 (h:=Ar [_] true [_,_,_,_,_,_,_] am_in24 am_cl24 (h:=Ar [_] true [_,_,_,_,_,_,_] am_in27 am_cl27 (h:=Ac z (Av (Wk.nshr [[2]] 3 [_,_,_,_,_,_,_]) (Av (Wk.nshr [[2]] 4 [_,_,_,_,_,_,_]) (Ai (hR3 _ _ (Df (Hy am_ag24 (Hy am_ag24 (Hy am_ag27 res_n))) ?_)))))))));skip;exact VP hst
   ·intro pre o' hSp hq;exact absurd hq.1 (by simp)
   intro id pre o' hSp hq;obtain ⟨h4,l2,o2,a2,hfi2,hlt,rfl⟩:=hq
   cases h4
   refine Vr (Wo (Yh (hR3 _ _ (A4 [0,1,6,2,7,3,4,5] [2,3,4,5,6,9,10,12] ⟨(l2,o2,a2),hfi2⟩ ?_ (Ag (h:=(Bd (h:=(Ag (h:=(Bd (h:=(Ag (h:=(Ag (h:=(Ag (h:=(Ag))))))))))))))) trivial (.c (.c (.c (.c (.c (.c (.c (.c .n))))))))))));skip;all_goals (dsimp only;omega)
  omega
 skip;refine Ab fun _ z=>Y As (Ac z (AG (fun c8=>?_) (fun c8=>?_)))
 ·refine Aj (Ev.block (Ab fun _ z=>Y Aa (Y Ad (Ac z (Ah fun _ z=>Y (Ao am_ag24) (Y Aa (Aq (Bf [[_]] true am_el24 am_ze3 am_cl3) (AW [_,_,_,_,_,_] am_el24 am_ze3 am_cl3 am_by3 (hh:=A3) (hr:=(A7 [(k:Int)])) (h:=Ar [_] false [_,_,_,_,_,_] am_in24 am_cl24 (h:=Ac z ?_))))))))));show Ev _ _ _ _;refine Ah fun _ z=>Y Ax (Y Aa (Ac z (hR1 _ _ (A4 [0,7,2,3,4,5] [0,1,2,3,4,5,6,7,8,9,10,18,19,20,21,22,23,24,25,26,28,29,30,31] ⟨k+1,by omega⟩ ?_ (Bd (he:=(by rw [GC,List.length_append] <;> rfl)) (h:=(Ag (he:=(by rw [GC,List.map_append] <;> rfl)) (h:=(Ag (h:=(Ag (h:=(Ag (h:=(Ag))))))))))) (Ae) (.c (.c (.c (.c (.c (.c (.c (.c (.c (.c (.c (.c (.c (.c (.c (.c (.c (.c (.c (.c (.c (.c (.c (.c .n))))))))))))))))))))))))))));skip;all_goals (dsimp only;omega)
 omega
def Hh (l:List Int) (t:Int):Nat:=(l.filter fun x=>decide (x < t)).length
theorem Kx {l:List Int} {t:Int} {i:Nat} (hi:i≤l.length) (h1:∀ k x,k < i→l[k]?= some x→x < t) (h2:∀ k x,i≤k→l[k]?= some x→t≤x):Hh l t=i:=by
 have e:l=l.take i ++ l.drop i:=(List.take_append_drop i l).symm
 unfold Hh
 rw [e,List.filter_append,List.length_append,List.filter_eq_self.2,List.filter_eq_nil_iff.2]
 ·simp;omega
 ·intro x hx;obtain ⟨k,hk⟩:=List.getElem?_of_mem hx;rw [List.getElem?_drop] at hk;have:=h2 (i+k) x (by omega) hk;simp only [decide_eq_true_eq];omega
 intro x hx;obtain ⟨k,hk⟩:=List.getElem?_of_mem hx;rw [List.getElem?_take] at hk
 split at hk
 ·exact decide_eq_true (h1 k x (by assumption) hk)
 cases hk
theorem Vj {l:List Int} {t y:Int} {i:Nat} (hs:l.Pairwise (· < ·)) (h1:∀ k x,k < i→l[k]?= some x→x < t) (hy:l[i]?= some y) (h2:t≤y):t ∈ l↔y=t:=by
 constructor
 ·intro h;obtain ⟨k,hk⟩:=List.getElem?_of_mem h
  have hki:i≤k:=by
   refine Nat.le_of_not_lt fun hlt=>?_;have:=h1 k t hlt hk;omega
  rcases Nat.eq_or_lt_of_le hki with e | e
  ·subst e;rw [hy] at hk;cases hk;rfl
  obtain ⟨a,b⟩:=List.getElem?_eq_some_iff.1 hy;obtain ⟨c,d⟩:=List.getElem?_eq_some_iff.1 hk;have:=List.pairwise_iff_getElem.1 hs i k a c e;omega
 rintro rfl;exact List.mem_of_getElem? hy
theorem Tz {l:List Int} (hs:l.Pairwise (· < ·)) {a b:Nat} {x y:Int} (hx:l[a]?= some x) (hy:l[b]?= some y) (h:a≤b):x≤y:=by
 rcases Nat.eq_or_lt_of_le h with e | e
 ·subst e;rw [hx] at hy;cases hy;exact Int.le_refl _
 obtain ⟨a1,b1⟩:=List.getElem?_eq_some_iff.1 hx;obtain ⟨c,d⟩:=List.getElem?_eq_some_iff.1 hy;have:=List.pairwise_iff_getElem.1 hs a b a1 c e;omega
theorem WQ {l:List Int} {t:Int} {i:Nat} (hi:l.length≤i) (h1:∀ k x,k < i→l[k]?= some x→x < t):¬ t ∈ l:=by
 intro h;obtain ⟨k,hk⟩:=List.getElem?_of_mem h;have:=h1 k t (by have:=(List.getElem?_eq_some_iff.1 hk).1;omega) hk;omega
theorem SD (x:Int):Fun Tryz.prog 380 [iL x] (AI (bL false) []):=by
 refine Fun.of (nt:=6) (rs:=[.tmp 2]) Tryz.func380 rfl rfl rfl rfl rfl (Ab fun _ z=>Y Ad (Ac z (Ab fun _ z=>Y Aa (Y Aa (Y Bn (Y Ad (Ac z (Ai (Ap ?_)))))))));exact congrArg (fun b=>bL b) (by simp)
theorem QQ (x:Int):Fun Tryz.prog 398 [iL x] (AI (bL false) []):=by
 refine Fun.of (nt:=6) (rs:=[.tmp 2]) Tryz.func398 rfl rfl rfl rfl rfl (Ab fun _ z=>Y Ad (Ac z (Ab fun _ z=>Y Aa (Y Aa (Y Bn (Y Ad (Ac z (Ai (Ap ?_)))))))));exact congrArg (fun b=>bL b) (by simp)
theorem PG (x y:Int):Fun Tryz.prog 303 [iL x,iL y] (AI (bL (decide (x < y))) []):=by
 refine Fun.of (nt:=17) (rs:=[.tmp 4]) Tryz.func303 rfl rfl rfl rfl rfl (Ab fun _ z=>Y Ad (Ac z (Ab fun _ z=>Y Aa (Ay (hF:=QQ _) (h:=HA Aa (fun c1=>?_) (fun c1=>?_))))))
 ·contradiction
 refine Au (Bq (Y AE (Y Aa (Y Aa (Y Aa (Y As (Y AE (Y Ad (Ac z (Ai (Ap ?_)))))))))));rfl
theorem PB (l:List Int) (t:Int) (hl:l.length≤100000) (hs:l.Pairwise (· < ·)):Fun Tryz.prog 280 [.sh 1 (l.map AD),iL t] (AI (.tup [iL (Hh l t),bL (decide (t ∈ l))]) []):=by
 refine Fun.of (nt:=54) (rs:=[.tmp 4, .tmp 5]) Tryz.func280 rfl rfl rfl rfl rfl (Ab fun _ z=>Y Ad (Y Ad (Ac z (Ab fun _ z=>Y Aa (Y (A5 am_el24) (Y Ad (Ac z (Ab fun _ z=>Y Aa (Y Ad (Y Ad (Ac z (Aj (Ev.block (AC (ι:={q:Nat × Nat // q.1≤q.2∧q.2≤l.length∧(∀ k x,k < q.1→l[k]?= some x→x < t)∧∀ k x,q.2≤k→l[k]?= some x→t≤x}) [] [0,1,6] (fun ⟨(i,j),_⟩=>[(7,iL (i:Int)),(8,iL (j:Int))]) (fun ⟨(i,j),_⟩=>[]) (fun ⟨(i,j),_⟩=>j - i) ⟨(0,l.length),Nat.zero_le _,Nat.le_refl _,fun k x h=>absurd h (by omega),fun k x h hx=>absurd (List.getElem?_eq_some_iff.1 hx).1 (by dsimp only at h;omega)⟩ (.c (.c (.c .n))) AN (Ae (h:=(Ae))) ?_))))))))))))));rintro ⟨⟨i,j⟩,hij,hjl,hlo,hhi⟩ R0 hR0;dsimp only [cA,nA,lC,lN]
 dsimp only at hij hjl hlo hhi
 by_cases hlt:i < j
 rotate_left
 ·have hije:i=j:=by omega
  obtain ⟨y,hy1⟩:∃ y,i < l.length→l[i]?= some y:=⟨(l[i]?).getD 0,fun h=>by rw [List.getElem?_eq_getElem h];rfl⟩;refine Aj (Ab fun _ z=>Y Aa (Y Aa (Y As (Ac z (Az (fun c1=>?_) (fun c1=>?_))))))
  ·omega
  refine AA (hR0 _ _ (Ab fun _ z=>Y Aa (Y Aa (Y Aa (Y As (AS Aa (fun c2=>?_) (fun c2=>?_)))))))
  ·refine Y Aa (Y Aa (Y (AQ am_el24 am_cl3 (hl:=(by exact Ba (hy1 (by omega)) (by omega)))) (Y (AO am_ag3) (Y Aa (Y Bk (AS Aa (fun c3=>?_) (fun c3=>?_)))))))
   ·refine Au (Au (Au (Au (Bq (Y AF (Y AF (Y Ad (Y Ad (Ac z (Ai (Cd ?_)))))))))));rw [Kx (by omega) hlo (fun k x hk hx=>hhi k x (by omega) hx),decide_eq_true ((Vj hs hlo (hy1 (by omega)) (hhi i _ (by omega) (hy1 (by omega)))).2 ‹y=t›)]
   refine Y Aa (Y Aa (Y (AQ am_el24 am_cl3 (hl:=(by exact Ba (hy1 (by omega)) (by omega)))) (Y (AO am_ag3) (Ay (hF:=SD _) (h:=HA Aa (fun c4=>?_) (fun c4=>?_))))))
   ·contradiction
   refine Au (Y AE (Y AE (Y AF (Y Ad (Y Ad (Ac z (Ai (Cd ?_))))))));rw [Kx (by omega) hlo (fun k x hk hx=>hhi k x (by omega) hx),decide_eq_false (fun h=>absurd ((Vj hs hlo (hy1 (by omega)) (hhi i _ (by omega) (hy1 (by omega)))).1 h) ‹¬ y=t›)]
  refine Au (Au (Au (Au (Au (Au (Au (Au (Bq (Y AE (Y Ad (Y Ad (Ac z (Ai (Cd ?_))))))))))))));rw [Kx (by omega) hlo (fun k x hk hx=>hhi k x (by omega) hx),decide_eq_false (WQ (by omega) hlo)]
 obtain ⟨h,hh⟩:∃ h:Nat,h=(i+j) / 2:=⟨_,rfl⟩
 have hhe:((i:Int)+j) / 2=(h:Int):=by omega
 obtain ⟨y,hy⟩:∃ y,l[(((i:Int)+j) / 2).toNat]?= some y:=⟨_,List.getElem?_eq_getElem (by omega)⟩
 have hy2:l[h]?= some y:=by rw [hhe,Int.toNat_natCast] at hy;exact hy
 refine Aj (Ab fun _ z=>Y Aa (Y Aa (Y As (Ac z (Az (fun c5=>?_) (fun c5=>?_))))))
 ·refine Am (Ev.block (Ab fun _ z=>Y Aa (Y Aa (Y Ax (Y (LR am_un301 am_us3) (Y Xs (Y (NU am_un3 am_us301) (Y Ad (Ac z (Ab fun _ z=>Y Aa (Y Aa (Y (AQ am_el24 am_cl3 (hl:=(by exact Ba hy (by omega)))) (Y (AO am_ag3) (Y Aa (Ay (hF:=PG _ _) (h:=Ac z (Az (fun c6=>?_) (fun c6=>?_))))))))))))))))))
  ·refine Ah fun _ z=>Y Aa (Y Ax (Y Ad (Ac z (hR0 _ _ (A4 [] [0,1,6] ⟨(h+1,j),by dsimp only;omega,hjl,fun k x hk hx=>(by have h9:=Tz hs hx hy2 (by dsimp only at hk;omega);omega),hhi⟩ ?_ AN (Ae (he:=(by congr 2;omega)) (h:=(Ae))) (.c (.c (.c .n))))))));skip;all_goals (dsimp only;omega)
  refine Ah fun _ z=>Y Aa (Y Ad (Ac z (hR0 _ _ (A4 [] [0,1,6] ⟨(i,h),by dsimp only;omega,by dsimp only;omega,hlo,fun k x hk hx=>(by have h9:=Tz hs hy2 hx hk;omega)⟩ ?_ AN (Ae (h:=(Ae (he:=(by congr 2))))) (.c (.c (.c .n)))))));skip;all_goals (dsimp only;omega)
 omega
def Bt (n:Nat) (l:List Int):List Int:=(CC n).filter fun i=>decide (¬ i ∈ l)
def Rt (nodes:List Int) (e:Int × Int):Bool:=decide (e.1 ∈ nodes∧e.2 ∈ nodes)
def CJ (nodes:List Int) (Aw:List (Int × Int)):List (Int × Int):=(Aw.filter (Rt nodes)).map fun e=>((Hh nodes e.1:Int),(Hh nodes e.2:Int))
def Fo (nodes places:List Int):List Int:=places.map fun i=>(nodes[i.toNat]?).getD 0
theorem Tj (n:Nat):(CC n).Pairwise (· < ·):=List.pairwise_map.2 ((List.pairwise_lt_range (n:=n)).imp fun h=>by omega)
theorem SV (n:Nat) (l:List Int):(Bt n l).Pairwise (· < ·):=(Tj n).sublist List.filter_sublist
theorem Hv (n:Nat) (l:List Int):(Bt n l).length≤n:=Nat.le_trans (List.length_filter_le _ _) (by rw [Ds];exact Nat.le_refl _)
theorem OP {n:Nat} {l:List Int} (h:¬ (n:Int) ∈ l):Bt (n+1) l=Bt n l ++ [(n:Int)]:=by
 unfold Bt
 rw [GC,List.filter_append]
 simp [h]
theorem OO {n:Nat} {l:List Int} (h:(n:Int) ∈ l):Bt (n+1) l=Bt n l:=by
 unfold Bt
 rw [GC,List.filter_append]
 simp [h]
theorem Q1 {l:List Int} {t:Int} (h:t ∈ l):Hh l t < l.length:=by
 unfold Hh
 refine Nat.lt_of_le_of_ne (List.length_filter_le _ _) fun e=>?_;have:=List.length_filter_eq_length_iff.1 e t h
 simp at this
theorem VZ (nodes:List Int) (Aw:List (Int × Int)):FC nodes.length (CJ nodes Aw):=by
 intro e he;obtain ⟨d,hd,rfl⟩:=List.mem_map.1 he;have h:=of_decide_eq_true (List.mem_filter.1 hd).2;have h1:=Q1 h.1;have h2:=Q1 h.2
 dsimp only
 omega
theorem OU (nodes:List Int) (Aw:List (Int × Int)):(CJ nodes Aw).length≤Aw.length:=by
 unfold CJ
 rw [List.length_map];exact List.length_filter_le _ _
theorem Td {nodes:List Int} {pre:List (Int × Int)} {s:Int × Int} (h1:s.1 ∈ nodes) (h2:s.2 ∈ nodes):CJ nodes (pre ++ [s])=CJ nodes pre ++ [((Hh nodes s.1:Int),(Hh nodes s.2:Int))]:=by
 unfold CJ Rt
 rw [List.filter_append,List.map_append]
 simp [h1,h2]
theorem LM {nodes:List Int} {pre:List (Int × Int)} {s:Int × Int} (h:¬ (s.1 ∈ nodes∧s.2 ∈ nodes)):CJ nodes (pre ++ [s])=CJ nodes pre:=by
 unfold CJ Rt
 rw [List.filter_append,List.map_append,List.filter_cons,if_neg (by simpa using h)]
 simp
theorem PV (N:Nat) (Aw:List (Int × Int)) (hN:N≤60) (hl:Aw.length≤1000) (l:List Int) (hll:l.length≤1000):Fun Tryz.prog 171 [.agg [iL (N:Int), .sh 2 (Aw.map pairC)], .sh 1 (l.map AD)] (AI (.tup [.sh 1 ((Bt N l).map AD), .sh 2 ((CJ (Bt N l) Aw).map pairC)]) []):=by
 have hbs:=fun t=>PB (Bt N l) t (by have:=Hv N l;omega) (SV N l);have hnl0:=Hv N l
 generalize hnd:Bt N l=nodes at hbs hnl0 ⊢
 refine Fun.of (nt:=63) (rs:=[.tmp 4, .tmp 5]) Tryz.func171 rfl rfl rfl rfl rfl (Ab fun _ z=>Aq (Bo _ true) (Y Ad (Y Ad (Ac z (Av (Wk.frzv 2 []) (Ab fun _ z=>Y Ad (Ac z (Aj (Ab fun _ z=>Y (BH 0 am_fi141_0 am_cl3) (Y (AO am_ag3) (Y Aa (Ac z (Ev.block (Av (Wk.nown AD 6 3 1) (AC (ι:={k:Nat // k≤N}) [1] [1,2,16] (fun ⟨k,_⟩=>[(17,iL (k:Int)),(6, .als 0 0 (Bt k l).length)]) (fun ⟨k,_⟩=>[(0,⟨true,3,1,(Bt k l).map AD,true⟩)]) (fun ⟨k,_⟩=>N - k) ⟨0,Nat.zero_le _⟩ (.c (.c (.c .n))) (Ag) (Ae (h:=(Ae))) ?_)))))))))))))));rintro ⟨k,hk⟩ R0 hR0;dsimp only [cA,nA,lC,lN];have hkl0:=Hv k l
 by_cases hkl:k < N
 rotate_left
 ·have hkn:k=N:=by omega
  subst k;rw [hnd];refine Ab fun _ z=>Y As (Ac z (AG (fun c1=>?_) (fun c1=>?_)))
  ·omega
  refine AA (hR0 _ _ (Ab fun _ z=>Y Ad (Ac z (Aj (Av (Wk.frz 6 []) (Ab fun _ z=>Y (BH 1 am_fi141_1 am_cl132) (Y (AO am_ag132) (Y (A5 am_el132) (Y Aa (Ac z (Ev.block (Av (Wk.nown pairC 8 274 2) (AC (ι:={p:List (Int × Int) × List (Int × Int) // p.1 ++ p.2=Aw∧True}) [1] [6,30,31] (fun ⟨(pre,suf),_⟩=>[(32,iL (pre.length:Int)),(8, .als 0 0 (CJ nodes pre).length)]) (fun ⟨(pre,suf),_⟩=>[(0,⟨true,274,2,(CJ nodes pre).map pairC,true⟩)]) (fun ⟨(pre,suf),_⟩=>suf.length) ⟨([],Aw),rfl,trivial⟩ (.c (.c (.c .n))) (Ag) (Ae (h:=(Ae))) ?_)))))))))))));rintro ⟨⟨pre,suf⟩,hp,hinv⟩ R2 hR2;dsimp only [cA,nA,lC,lN]
  simp only at hp hinv
  have hpl:=BO hp
  rcases suf with _ | ⟨s,suf⟩
  ·rw [List.append_nil] at hp;simp only [lN] at hpl;subst pre;refine Ab fun _ z=>Y As (Ac z (AG (fun c2=>?_) (fun c2=>?_)))
   ·omega
   refine AA (hR2 _ _ (Ab fun _ z=>Y Aa (Y Aa (Y Ad (Y Ad (Ac z (Av (Wk.frz 5 []) (Ai (Cd ?_)))))))));rfl
  simp only [lC] at hpl;have hidx:=BM hp;obtain ⟨s1,s2⟩:=s;have hol:=OU nodes pre;refine Ab fun _ z=>Y As (Ac z (AG (fun c3=>?_) (fun c3=>?_)))
  ·refine Aj (Ev.block (Ab fun _ z=>Y (AQ am_el132 am_cl274 (hl:=(by exact Ba hidx (by omega)))) (Y (Bv _ am_ag274 am_cl274) (Aq (AT am_ze274) (Ar _ true [_] am_in274 am_cl274 (h:=Ac z (Ab fun _ z=>Y Aa (Y (Bs am_el274 am_ar274 am_cl3) (Y (Ao am_ag3) (Ay (hF:=hbs s1) (h:=Y Aa (Y AH (Y AH (Y Ad (Y Ad (Ac z (Ab fun _ z=>Y Aa (Y (Bs am_el274 am_ar274 am_cl3) (Y (Ao am_ag3) (Ay (hF:=hbs s2) (h:=Y Aa (Y AH (Y AH (Y Ad (Y Ad (Ac z (Ab fun _ z=>Y Aa (AS Aa (fun c4=>?_) (fun c4=>?_)))))))))))))))))))))))))))))
   ·refine Y Aa (Y AF (Ac z (Az (fun c5=>?_) (fun c5=>?_))))
    ·refine Ah fun _ z=>Y Aa (Y Aa (Y Aa (Y (DW [_,_] am_ze274 am_pn274 am_ar274 am_cl3) (Aq (Bf [[_,_]] true am_el132 am_ze274 am_cl274) (AW [_,_] am_el132 am_ze274 am_cl274 am_by274 (hh:=A3) (hr:=(A7 [((Hh nodes s1:Int),(Hh nodes s2:Int))])) (h:=Y Ad (Ac z ?_)))))));show Ev _ _ _ _;refine Ah fun _ z=>Y Ax (Y Aa (Ac z (hR2 _ _ (A4 [3] [6,30,31] ⟨(pre ++ [(s1,s2)],suf),Bu hp,trivial⟩ B9 (Ag (he:=(by rw [Td ‹_› ‹_›,List.map_append] <;> rfl))) (Ae (he:=(by congr 2;simp)) (h:=(Ae (he:=(by rw [Td ‹_› ‹_›,List.length_append] <;> rfl))))) (.c (.c (.c .n)))))));skip
    refine Am (Ah fun _ z=>Y Ax (Y Aa (Ac z (hR2 _ _ (A4 [0] [6,30,31] ⟨(pre ++ [(s1,s2)],suf),Bu hp,trivial⟩ B9 (Ag (he:=(by rw [LM (by simp_all)]))) (Ae (he:=(by congr 2;simp)) (h:=(Ae (he:=(by rw [LM (by simp_all)]))))) (.c (.c (.c .n))))))));skip
   refine Bq (Y AE (Ac z (Cw (Am (Ah fun _ z=>Y Ax (Y Aa (Ac z (hR2 _ _ (A4 [0] [6,30,31] ⟨(pre ++ [(s1,s2)],suf),Bu hp,trivial⟩ B9 (Ag (he:=(by rw [LM (by simp_all)]))) (Ae (he:=(by congr 2;simp)) (h:=(Ae (he:=(by rw [LM (by simp_all)]))))) (.c (.c (.c .n))))))))))));skip
  omega
 skip;refine Ab fun _ z=>Y As (Ac z (AG (fun c6=>?_) (fun c6=>?_)))
 ·refine Aj (Ev.block (Ab fun _ z=>Y Aa (Y Ad (Ac z (Ab fun _ z=>Y Aa (Y Aa (Ay (hF:=HJ l (k:Int) (by omega)) (h:=Y Bw (Ac z (Bh (fun c7=>?_) (fun c7=>?_)))))))))))
  ·refine Ah fun _ z=>Y Aa (Y Aa (Aq (Bf [[_]] true am_el24 am_ze3 am_cl3) (AW [_] am_el24 am_ze3 am_cl3 am_by3 (hh:=A3) (hr:=(A7 [(k:Int)])) (h:=Y Ad (Ac z ?_)))));show Ev _ _ _ _;refine Ah fun _ z=>Y Ax (Y Aa (Ac z (hR0 _ _ (A4 [2] [1,2,16] ⟨k+1,by omega⟩ ?_ (Ag (he:=(by rw [OP ‹_›,List.map_append] <;> rfl))) (Ae (h:=(Ae (he:=(by rw [OP ‹_›,List.length_append] <;> rfl))))) (.c (.c (.c .n)))))));skip;all_goals (dsimp only;omega)
  refine Am (Ah fun _ z=>Y Ax (Y Aa (Ac z (hR0 _ _ (A4 [0] [1,2,16] ⟨k+1,by omega⟩ ?_ (Ag (he:=(by rw [OO ‹_›]))) (Ae (h:=(Ae (he:=(by rw [OO ‹_›]))))) (.c (.c (.c .n))))))));skip;all_goals (dsimp only;omega)
 omega
theorem QN (nodes places:List Int) (hpl0:places.length≤1000) (hr:∀ i ∈ places,0≤i∧i < nodes.length):Fun Tryz.prog 172 [.sh 1 (nodes.map AD), .sh 1 (places.map AD)] (AI (.sh 1 ((Fo nodes places).map AD)) []):=by
 refine Fun.of (nt:=23) (rs:=[.tmp 4]) Tryz.func172 rfl rfl rfl rfl rfl (Ab fun _ k=>Y Ad (Ac k (Ab fun _ k=>Y Ad (Ac k (Aj (Ab fun _ k=>Y Aa (Y (A5 am_el24) (Y Aa (Ac k (Ev.block (Av (Wk.nown AD 5 3 1) (AC (ι:={p:List (Int) × List (Int) // p.1 ++ p.2=places∧True}) [0] [0,8,9] (fun ⟨(pre,suf),_⟩=>[(10,iL (pre.length:Int)),(5, .als 0 0 (Fo nodes pre).length)]) (fun ⟨(pre,suf),_⟩=>[(0,⟨true,3,1,(Fo nodes pre).map AD,true⟩)]) (fun ⟨(pre,suf),_⟩=>suf.length) ⟨([],places),rfl,trivial⟩ (.c (.c (.c .n))) (Ag) (Ae (h:=(Ae))) ?_))))))))))));rintro ⟨⟨pre,suf⟩,hp,hinv⟩ R0 hR0;dsimp only [cA,nA,lC,lN]
 simp only at hp hinv
 have hpl:=BO hp
 rcases suf with _ | ⟨s,suf⟩
 ·rw [List.append_nil] at hp;simp only [lN] at hpl;subst pre;refine Ab fun _ k=>Y As (Ac k (AG (fun c1=>?_) (fun c1=>?_)))
  ·omega
  refine AA (hR0 _ _ (Ab fun _ k=>Y Aa (Y Ad (Ac k (Av (Wk.frz 4 []) (Ai (Ap ?_)))))));rfl
 simp only [lC] at hpl;have hidx:=BM hp;have hsr:=hr s (by rw [← hp];simp);obtain ⟨x,hx⟩:∃ x,nodes[s.toNat]?= some x:=⟨_,List.getElem?_eq_getElem (by omega)⟩
 have hnv:Fo nodes (pre ++ [s])=Fo nodes pre ++ [x]:=by unfold Fo;rw [List.map_append,List.map_singleton,hx];rfl
 have hnl:(Fo nodes pre).length=pre.length:=List.length_map ..;refine Ab fun _ k=>Y As (Ac k (AG (fun c2=>?_) (fun c2=>?_)))
 ·refine Aj (Ev.block (Ab fun _ k=>Y (AQ am_el24 am_cl3 (hl:=(by exact Ba hidx (by omega)))) (Y (AO am_ag3) (Y Ad (Ac k (Ah fun _ k=>Y Aa (Y Aa (Y Aa (Y (AQ am_el24 am_cl3 (hl:=(by exact Ba hx (by omega)))) (Y (AO am_ag3) (Aq (Bf [[_]] true am_el24 am_ze3 am_cl3) (AW [_] am_el24 am_ze3 am_cl3 am_by3 (hh:=A3) (hr:=(A7 [x])) (h:=Y Ad (Ac k ?_))))))))))))));show Ev _ _ _ _;refine Ah fun _ k=>Y Ax (Y Aa (Ac k (hR0 _ _ (A4 [2] [0,8,9] ⟨(pre ++ [s],suf),Bu hp,trivial⟩ B9 (Ag (he:=(by rw [hnv,List.map_append] <;> rfl))) (Ae (he:=(by congr 2;simp)) (h:=(Ae (he:=(by rw [hnv,List.length_append] <;> rfl))))) (.c (.c (.c .n)))))));skip
 omega
theorem WS {nodes:List Int} {n:Nat} {Aw:List (Int × Int)} {r:List Int × Bool} (hr:Ck n Aw r) (h:r.2=true):∃ r':List Int × Bool,Ck n Aw r'∧AV.tup [.sh 1 ((Fo nodes r.1).map AD),iL 0]= .tup [.sh 1 ((Fo nodes r'.1).map AD),iL (HW r'.2)]∧([]:List (Nat × AM.Obj))=[]:=⟨r,hr,by rw [h];rfl,rfl⟩
theorem WR {nodes:List Int} {n:Nat} {Aw:List (Int × Int)} {r:List Int × Bool} (hr:Ck n Aw r) (h:HW r.2≠0):∃ r':List Int × Bool,Ck n Aw r'∧AV.tup [.sh 1 (([]:List Int).map AD),iL (HW r.2)]= .tup [.sh 1 ((Fo nodes r'.1).map AD),iL (HW r'.2)]∧([]:List (Nat × AM.Obj))=[]:=by
 have h2:r.2=false:=by
  cases hb:r.2 with
  |false=>rfl
  |true=>rw [hb] at h;exact absurd rfl h
 exact ⟨r,hr,by rw [(hr.2 h2).1];rfl,rfl⟩
theorem LL {b:Bool} (h:HW b=0):b=true:=by
 cases b with
 |true=>rfl
 |false=>exact absurd h (by decide)
theorem Lv (N:Nat) (Aw:List (Int × Int)) (hN:N≤60) (hl:Aw.length≤1000) (l:List Int) (hll:l.length≤1000):Fun Tryz.prog 67 [.agg [iL (N:Int), .sh 2 (Aw.map pairC)], .sh 1 (l.map AD)] (fun v ls=>∃ r:List Int × Bool,Ck (Bt N l).length (CJ (Bt N l) Aw) r∧v= .tup [.sh 1 ((Fo (Bt N l) r.1).map AD),iL (HW r.2)]∧ls=[]):=by
 have hof:=PV N Aw hN hl l hll;have hnl0:=Hv N l;have hel0:=OU (Bt N l) Aw;have hdo:=K9 (Bt N l).length (CJ (Bt N l) Aw) (by omega) (by omega) (VZ _ _);have hnf:=fun (r:List Int × Bool) (hr:Ck (Bt N l).length (CJ (Bt N l) Aw) r) (h:r.2=true)=>QN (Bt N l) r.1 (by have:=(hr.1 h).2;omega) (fun i hi=>((hr.1 h).1.2.1 i hi))
 generalize Bt N l=nodes at *
 refine Fun.of (nt:=29) (rs:=[.tmp 4, .tmp 5]) Tryz.func67 rfl rfl rfl rfl rfl (Ab fun _ k=>Aq (Bo _ true) (Y Ad (Y Ad (Ac k (Av (Wk.frzv 2 []) (Ab fun _ k=>Y (Bv _ am_ag141 am_cl141) (Y Aa (Ay (hF:=hof) (h:=Y Aa (Y AH (Y AH (Y Ad (Y Ad (Ac k (Ab fun _ k=>Y Aa (Y (A5 am_el24) (Y Aa (Fw (hF:=hdo) (h:=fun r hr=>(Y Aa (Y AH (Y AH (Y Ad (Y Ad (Ac k (Aj (Ab fun _ k=>Y Aa (Y Bn (Ac k (Bh (fun c1=>?_) (fun c1=>?_)))))))))))))))))))))))))))))))
 ·refine Ab fun _ k=>Y Aa (Y Ad (Y Ad (Ac k (Av (Wk.nsh AD 4 1) (Ai (Cx ?_))))));skip;exact WR hr ‹_›
 refine Am (Ab fun _ k=>Y Aa (Y Aa (Ay (hF:=hnf r hr (LL (by omega))) (h:=Y Ad (Y Ad (Ac k (Ai (Cx ?_))))))));skip;exact WS hr (LL (by omega))
theorem Sm (bars:List Bar) (runs:List Rn) (hok:BV bars runs) (hw:Ce bars) (hrw:Dw runs) (hn:AR runs≤12) (by_:List Int) (hbl:by_.length≤1000) (he0:Eh runs by_=0):Fun Tryz.prog 65 [.sh 5 (bars.map Bar.c), .sh 10 (runs.map Rn.c), .sh 1 (by_.map AD)] (AI (.tup [.agg [iL (AR runs), .sh 2 ((Aw bars runs by_).map pairC)],iL 0]) []):=by
 have hef:=MT bars runs hok hw hrw hn by_ hbl;have hel:=GK (bars:=bars) (by_:=by_) hn;rw [he0,(H6 (bars:=bars) he0).1] at hef;refine Fun.of (nt:=36) (rs:=[.cell 6 141, .tmp 7]) Tryz.func65 rfl rfl rfl rfl rfl (Ab fun _ k=>Aq (AT am_ze141) (Y Ad (Ac k (Ab fun _ k=>Y Aa (Y Aa (Y Aa (Ay (hF:=hef) (h:=Y Aa (Y AH (Y AH (Y Ad (Y Ad (Ac k (Aj (Ab fun _ k=>Y Aa (Y Bn (Ac k (Bh (fun c1=>?_) (fun c1=>?_)))))))))))))))))))
 ·omega
 refine Am (Aj (Ab fun _ k=>Y Aa (Y (A5 am_el132) (Y Be (Ac k (Az (fun c2=>?_) (fun c2=>?_)))))))
 ·omega
 refine Am (Ab fun _ k=>Y Aa (Y Aa (Ay (hF:=DL bars runs hok hw hrw) (h:=Y Aa (Y AH (Y AH (Y Ad (Y Ad (Ac k (Ab fun _ k=>Y Aa (Y Aa (Y (Bg _ am_ze141 am_pl141) (Y Aa (Ar _ true [] am_in141 am_cl141 (h:=Y Ad (Ac k (Ai (D1 (Bp [_,_] am_ag141 am_cl141 (Db res_n)) (⟨?_,rfl⟩)))))))))))))))))));rfl
def Gr (b:Bool) (l:List Int):AV:=if b=true then .sh 1 (l.map AD) else .lit (.slice none 0 0)
abbrev FL (N:Nat) (Aw:List (Int × Int)) (x:AV):List (Nat × AM.Obj):=[(0,⟨false,24,1,[[x]],true⟩),(1,⟨false,144,1,[[.fn (.func 66) [] [.sadr [iL (N:Int), .sh 2 (Aw.map pairC)] 0, .adr 0 0 0, .adr 1 0 0]]],false⟩)]
theorem Vl {N:Nat} {Aw:List (Int × Int)} {n:Nat} {e:List (Int × Int)} {l:List Int} {r:List Int × Bool} (hr:Ck n e r) (h:r.2=true):∃ r':List Int × Bool,Ck n e r'∧bL true=bL r'.2∧FL N Aw (.sh 1 (l.map AD))=FL N Aw (Gr r'.2 l):=⟨r,hr,by rw [h],by rw [h];rfl⟩
theorem Vk {N:Nat} {Aw:List (Int × Int)} {n:Nat} {e:List (Int × Int)} {l:List Int} {r:List Int × Bool} (hr:Ck n e r) (h:HW r.2≠0):∃ r':List Int × Bool,Ck n e r'∧bL false=bL r'.2∧FL N Aw (.lit (.slice none 0 0))=FL N Aw (Gr r'.2 l):=by
 have h2:r.2=false:=by
  cases hb:r.2 with
  |false=>rfl
  |true=>rw [hb] at h;exact absurd rfl h
 exact ⟨r,hr,by rw [h2],by rw [h2];rfl⟩
theorem PC (N:Nat) (Aw:List (Int × Int)) (hN:N≤60) (hl:Aw.length≤1000) (l:List Int) (hll:l.length≤1000) (from_ more:Int) (hm:more=0):FunR Tryz.prog 66 [.sh 1 (l.map AD),iL from_,iL more, .sadr [iL (N:Int), .sh 2 (Aw.map pairC)] 0, .adr 0 0 0, .adr 1 0 0] [(0,⟨false,24,1,[[.lit (.slice none 0 0)]],true⟩),(1,⟨false,144,1,[[.fn (.func 66) [] [.sadr [iL (N:Int), .sh 2 (Aw.map pairC)] 0, .adr 0 0 0, .adr 1 0 0]]],false⟩)] 2 (fun v ls=>∃ r:List Int × Bool,Ck (Bt N l).length (CJ (Bt N l) Aw) r∧v=bL r.2∧ls=FL N Aw (Gr r.2 l)):=by
 refine FunR.of (nt:=42) (rs:=[.tmp 9]) Tryz.func66 rfl rfl rfl rfl rfl (Ab fun _ z=>Y Ad (Ac z (Aj (Ab fun _ z=>Y Aa (Y Bk (Ac z (Az (fun c1=>?_) (fun c1=>?_))))))))
 ·refine Aj (Ab fun _ z=>Y (Bv _ am_ag141 am_cl141) (Y Aa (Fw (hF:=Lv N Aw hN hl l hll) (h:=fun r hr=>(Y Aa (Y AH (Y AH (Y Ad (Y Ad (Ac z (Ab fun _ z=>Y Aa (Y Bn (Ac z (Bh (fun c2=>?_) (fun c2=>?_)))))))))))))))
  ·refine Ab fun _ z=>Y Ad (Ac z (Ai (D9 [0,1] (B5 (h:=(CO (h:=BZ)))) leads2 ?_)));skip;exact Vk hr ‹_›
  refine Am (Ab fun _ z=>Y Aa (Oe (hF:=Hb l (by omega)) (h:=(SeqL.weaken (Wk.frz 24 [_,_]) (Ar _ true [_] am_in24 am_cl24 (h:=Ac z (Ab fun _ z=>Y Ad (Ac z (Ai (D9 [0,1] (B5 (h:=(CO (h:=BZ)))) leads2 ?_))))))))));skip;exact Vl hr (LL (by omega))
 omega
theorem PD (N:Nat) (Aw:List (Int × Int)) (hN:N≤60) (hl:Aw.length≤1000) (more:Int) (hm:more=1) (hN1:1≤N) (hT:∀ r,Ck (Bt N [0]).length (CJ (Bt N [0]) Aw) r→r.2=true):FunR Tryz.prog 66 [.lit (.slice none 0 0),iL 0,iL more, .sadr [iL (N:Int), .sh 2 (Aw.map pairC)] 0, .adr 0 0 0, .adr 1 0 0] [(0,⟨false,24,1,[[.lit (.slice none 0 0)]],true⟩),(1,⟨false,144,1,[[.fn (.func 66) [] [.sadr [iL (N:Int), .sh 2 (Aw.map pairC)] 0, .adr 0 0 0, .adr 1 0 0]]],false⟩)] 2 (AI (bL true) (FL N Aw (.sh 1 (([0]:List Int).map AD)))):=by
 subst hm;have hcA:=PC N Aw hN hl [0] (by decide);refine FunR.of (nt:=42) (rs:=[.tmp 9]) Tryz.func66 rfl rfl rfl rfl rfl (Ab fun _ z=>Y Ad (Ac z (Aj (Ab fun _ z=>Y Aa (Y Bk (Ac z (Az (fun c1=>?_) (fun c1=>?_))))))))
 ·omega
 refine Am (Aj (Ab fun _ z=>Y Aa (Y Ad (Ac z (Ev.block (AC (ι:=Unit) [0,1] [0,2,3,5] (fun _=>[(12,iL (0))]) (fun _=>[(0,⟨false,24,1,[[.lit (.slice none 0 0)]],true⟩),(1,⟨false,144,1,[[.fn (.func 66) [] [.sadr [iL (N:Int), .sh 2 (Aw.map pairC)] 0, .adr 0 0 0, .adr 1 0 0]]],false⟩)]) (fun _=>0) () (.c (.c (.c (.c .n)))) (Ag (h:=(Bd))) (Ae) ?_))))));rintro _u R0 hR0;dsimp only [cA,nA,lC,lN];skip;have hz:=hN1;refine Aj (Ab fun _ z=>Y Aa (Y (BH 0 am_fi141_0 am_cl3) (Y (AO am_ag3) (Y As (Ac z (Az (fun c2=>?_) (fun c2=>?_)))))))
 ·refine Am (Aj (Ev.block (J8 (m:=10) (L0:= #[false,false,false,false,false,false,false,false,false,false]) rfl (by kernel_rfl) (by exact rfl) fun _ z=>(CL (i:=1) rfl (h:=(CL (i:=2) rfl (h:=(CL (i:=5) rfl (h:=(WD (i:=6) rfl (Ax) (CL (i:=7) rfl (h:=(WD (i:=8) rfl (BK) (.done (By (i:=0) (j:=3) trivial rfl rfl (Y (Ao am_ag144) (Af ?_)) (Aq (Bf [[_]] true am_el24 am_ze3 am_cl3) (Af ?_)))))))))))))))))
  ·skip;refine HT.one (i:=3) trivial rfl (Aq (Bf [[_]] true am_el24 am_ze3 am_cl3) (Af (HT.one (i:=4) trivial rfl (AW [_,_,_] am_el24 am_ze3 am_cl3 am_by3 (hh:=(JK (f:=AD))) (hr:=(A7 [0])) (h:=Af (HT.one (i:=9) trivial rfl (SeqL.weaken (Wk.frzl (f:=AD) ([] ++ [0]) 36 [_,_,_]) (GH (ι:=List Int × Bool) (Φ:=(fun r=>Ck (Bt N [0]).length (CJ (Bt N [0]) Aw) r)) (vf:=(fun r=>bL r.2)) (lf:=(fun r=>FL N Aw (Gr r.2 [0]))) [0,1] 4 (hob:=(Ag (h:=(Bd)))) (hF:=hcA (0+1) (1 - 1) rfl) (hn':=fun _=>B7 rfl rfl) (h:=fun r hr=>(Af (Bc trivial (by kernel_rfl) (z _ (En (fun c3=>?_) (fun c3=>?_))))))))))))))
   ·refine Ab fun _ z=>Y Ad (Ac z (Ai (hR0 _ _ (D9 [0,1] (B5 (h:=(CO (h:=BZ)))) leads2 (⟨?_,?_⟩)))));all_goals first
     |rfl
     |(rw [show Gr r.2 [0]= .sh 1 (([0]:List Int).map AD) from if_pos (hT r hr)];done)
   refine Am ?_;exact absurd (hT r hr) (by simp_all)
  skip;refine By (i:=0) (j:=4) trivial rfl rfl (Y (Ao am_ag144) (Af ?_)) (AW [_,_,_] am_el24 am_ze3 am_cl3 am_by3 (hh:=(JK (f:=AD))) (hr:=(A7 [0])) (h:=Af ?_))
  ·skip;refine HT.one (i:=4) trivial rfl (AW [_,_,_] am_el24 am_ze3 am_cl3 am_by3 (hh:=(JK (f:=AD))) (hr:=(A7 [0])) (h:=Af (HT.one (i:=9) trivial rfl (SeqL.weaken (Wk.frzl (f:=AD) ([] ++ [0]) 36 [_,_,_]) (GH (ι:=List Int × Bool) (Φ:=(fun r=>Ck (Bt N [0]).length (CJ (Bt N [0]) Aw) r)) (vf:=(fun r=>bL r.2)) (lf:=(fun r=>FL N Aw (Gr r.2 [0]))) [0,1] 4 (hob:=(Ag (h:=(Bd)))) (hF:=hcA (0+1) (1 - 1) rfl) (hn':=fun _=>B7 rfl rfl) (h:=fun r hr=>(Af (Bc trivial (by kernel_rfl) (z _ (En (fun c4=>?_) (fun c4=>?_)))))))))))
   ·refine Ab fun _ z=>Y Ad (Ac z (Ai (hR0 _ _ (D9 [0,1] (B5 (h:=(CO (h:=BZ)))) leads2 (⟨?_,?_⟩)))));all_goals first
     |rfl
     |(rw [show Gr r.2 [0]= .sh 1 (([0]:List Int).map AD) from if_pos (hT r hr)];done)
   refine Am ?_;exact absurd (hT r hr) (by simp_all)
  skip;refine HT.one (i:=0) trivial rfl (Y (Ao am_ag144) (Af (HT.one (i:=9) trivial rfl (SeqL.weaken (Wk.frzl (f:=AD) ([] ++ [0]) 36 [_,_,_]) (GH (ι:=List Int × Bool) (Φ:=(fun r=>Ck (Bt N [0]).length (CJ (Bt N [0]) Aw) r)) (vf:=(fun r=>bL r.2)) (lf:=(fun r=>FL N Aw (Gr r.2 [0]))) [0,1] 4 (hob:=(Ag (h:=(Bd)))) (hF:=hcA (0+1) (1 - 1) rfl) (hn':=fun _=>B7 rfl rfl) (h:=fun r hr=>(Af (Bc trivial (by kernel_rfl) (z _ (En (fun c5=>?_) (fun c5=>?_)))))))))))
  ·refine Ab fun _ z=>Y Ad (Ac z (Ai (hR0 _ _ (D9 [0,1] (B5 (h:=(CO (h:=BZ)))) leads2 (⟨?_,?_⟩)))));all_goals first
    |rfl
    |(rw [show Gr r.2 [0]= .sh 1 (([0]:List Int).map AD) from if_pos (hT r hr)];done)
  refine Am ?_;exact absurd (hT r hr) (by simp_all)
 omega
theorem PF (N:Nat) (Aw:List (Int × Int)) (hN:N≤60) (hl:Aw.length≤1000) (from_ more:Int) (hm:more=0):FunR Tryz.prog 66 [.lit (.slice none 0 0),iL from_,iL more, .sadr [iL (N:Int), .sh 2 (Aw.map pairC)] 0, .adr 0 0 0, .adr 1 0 0] [(0,⟨false,24,1,[[.lit (.slice none 0 0)]],true⟩),(1,⟨false,144,1,[[.fn (.func 66) [] [.sadr [iL (N:Int), .sh 2 (Aw.map pairC)] 0, .adr 0 0 0, .adr 1 0 0]]],false⟩)] 2 (fun v ls=>∃ r:List Int × Bool,Ck (Bt N []).length (CJ (Bt N []) Aw) r∧v=bL r.2∧ls=FL N Aw (Gr r.2 [])):=by
 refine FunR.of (nt:=42) (rs:=[.tmp 9]) Tryz.func66 rfl rfl rfl rfl rfl (Ab fun _ z=>Y Ad (Ac z (Aj (Ab fun _ z=>Y Aa (Y Bk (Ac z (Az (fun c1=>?_) (fun c1=>?_))))))))
 ·refine Aj (Ab fun _ z=>(SeqL.weaken (Wk.nsh AD 0 1) (Y (Bv _ am_ag141 am_cl141) (Y Aa (Fw (hF:=Lv N Aw hN hl [] (by decide)) (h:=fun r hr=>(Y Aa (Y AH (Y AH (Y Ad (Y Ad (Ac z (Ab fun _ z=>Y Aa (Y Bn (Ac z (Bh (fun c2=>?_) (fun c2=>?_)))))))))))))))))
  ·refine Ab fun _ z=>Y Ad (Ac z (Ai (D9 [0,1] (B5 (h:=(CO (h:=BZ)))) leads2 ?_)));skip;exact Vk hr ‹_›
  refine Am (Ab fun _ z=>Y Aa (Oe (hF:=Hb [] (by decide)) (h:=(SeqL.weaken (Wk.frz 24 [_,_]) (Ar _ true [_] am_in24 am_cl24 (h:=Ac z (Ab fun _ z=>Y Ad (Ac z (Ai (D9 [0,1] (B5 (h:=(CO (h:=BZ)))) leads2 ?_))))))))));skip;exact Vl (l:=[]) hr (LL (by omega))
 omega
theorem PE (N:Nat) (Aw:List (Int × Int)) (hN:N≤60) (hl:Aw.length≤1000) (k:Nat) (hk:k=0∨(k=1∧1≤N∧∀ r,Ck (Bt N [0]).length (CJ (Bt N [0]) Aw) r→r.2=true)):FunR Tryz.prog 66 [.lit (.slice none 0 0),iL 0,iL (k:Int), .sadr [iL (N:Int), .sh 2 (Aw.map pairC)] 0, .adr 0 0 0, .adr 1 0 0] [(0,⟨false,24,1,[[.lit (.slice none 0 0)]],true⟩),(1,⟨false,144,1,[[.fn (.func 66) [] [.sadr [iL (N:Int), .sh 2 (Aw.map pairC)] 0, .adr 0 0 0, .adr 1 0 0]]],false⟩)] 2 (fun v ls=>∃ q:Bool × List Int,(fun q:Bool × List Int=>(k=0→q.2=[]∧∃ r,Ck (Bt N []).length (CJ (Bt N []) Aw) r∧r.2=q.1)∧(k=1→q=(true,[0]))) q∧v=bL q.1∧ls=FL N Aw (Gr q.1 q.2)):=by
 rcases hk with rfl | ⟨rfl,h1,h2⟩
 ·refine FunR.mono (PF N Aw hN hl 0 ((0:Nat):Int) rfl) ?_;rintro v ls ⟨r,hr,hv,hls⟩;exact ⟨(r.2,[]),⟨fun _=>⟨rfl,r,hr,rfl⟩,fun h=>absurd h (by decide)⟩,hv,hls⟩
 refine FunR.mono (PD N Aw hN hl ((1:Nat):Int) rfl h1 h2) ?_;rintro v ls ⟨hv,hls⟩;exact ⟨(true,[0]),⟨fun h=>absurd h (by decide),fun _=>rfl⟩,hv,hls⟩
theorem am_ze144:AK Tryz.prog 144=some [.lit .nilFunc]:=by kernel_rfl
theorem am_in144:(Tryz.prog.info? 144).isSome=true:=by kernel_rfl
def NS (N:Nat) (edg:List (Int × Int)) (c:Bool):Prop:=(c=true→∀ r,Ck (Bt N []).length (CJ (Bt N []) edg) r→r.2=true)∧(c=false→(∀ r,Ck (Bt N []).length (CJ (Bt N []) edg) r→r.2=false)∧1≤N∧∀ r,Ck (Bt N [0]).length (CJ (Bt N [0]) edg) r→r.2=true)
def Ro (c:Bool):List Int:=if c=true then [] else [0]
theorem Qv {N:Nat} {edg:List (Int × Int)} {c:Bool} {k:Nat} {q:Bool × List Int} (h:NS N edg c) (hk:k=0∨(k=1∧c=false)) (hq:(fun q:Bool × List Int=>(k=0→q.2=[]∧∃ r,Ck (Bt N []).length (CJ (Bt N []) edg) r∧r.2=q.1)∧(k=1→q=(true,[0]))) q):(q.1=true→q.2=Ro c)∧(q.1=false→k=0∧c=false):=by
 obtain ⟨h1,h2⟩:=hq
 rcases hk with rfl | ⟨rfl,rfl⟩
 ·obtain ⟨h3,r,hr,h4⟩:=h1 rfl
  cases c with
  |true =>
   have:=h.1 rfl r hr;rw [h4] at this;exact ⟨fun _=>h3,(fun h5=>by rw [this] at h5;cases h5)⟩
  |false =>
   have:=(h.2 rfl).1 r hr;rw [h4] at this;exact ⟨(fun h5=>by rw [this] at h5;cases h5),fun _=>⟨rfl,rfl⟩⟩
 have:=h2 rfl;subst this;exact ⟨fun _=>rfl,(fun h5=>by cases h5)⟩
theorem Ht (bars:List Bar) (runs:List Rn) (hok:BV bars runs) (hw:Ce bars) (hrw:Dw runs) (hn:AR runs≤12) (by_:List Int) (hbl:by_.length≤1000) (he0:Eh runs by_=0) (c:Bool) (hc:NS (AR runs).toNat (Aw bars runs by_) c):Fun Tryz.prog 12 [.sh 5 (bars.map Bar.c), .sh 10 (runs.map Rn.c), .sh 1 (by_.map AD)] (AI (.tup [.sh 1 ((Ro c).map AD),iL 0]) []):=by
 have hn1:∀ r ∈ runs,1≤r.n:=fun r hr=>(hok.2.2.1 r hr).2.2.1.1;have hnn:=D4 hn1;have hbf:=Sm bars runs hok hw hrw hn by_ hbl he0;have hel:=GK (bars:=bars) (by_:=by_) hn;obtain ⟨N,hN⟩:∃ N:Nat,AR runs=N:=⟨(AR runs).toNat,by omega⟩;obtain ⟨edg,hedg⟩:∃ e,Aw bars runs by_=e:=⟨_,rfl⟩;rw [hN,hedg] at hbf hc;rw [hN] at hn;rw [hedg] at hel;rw [Int.toNat_natCast] at hc;have hck:=fun (k:Nat) hk=>PE N edg (by omega) (by omega) k hk;refine Fun.of (nt:=38) (rs:=[.tmp 6, .tmp 7]) Tryz.func12 rfl rfl rfl rfl rfl (Ab fun _ z=>Y Ad (Y Ad (Ac z (Ab fun _ z=>Y Aa (Y Aa (Y Aa (Ay (hF:=hbf) (h:=Y Aa (Y AH (Y AH (Aq (AT am_ze141) (Ar _ true [] am_in141 am_cl141 (h:=Y Ad (Ac z (Aj (Av (Wk.frzv 8 []) (Ab fun _ z=>Y Aa (Y Bn (Ac z (Bh (fun c1=>?_) (fun c1=>?_)))))))))))))))))))))
 ·omega
 refine Am (Aj (Ab fun _ z=>Y (BH 0 am_fi141_0 am_cl3) (Y (AO am_ag3) (Y Be (Ac z (Az (fun c2=>?_) (fun c2=>?_)))))))
 ·omega
 refine Am (Ab fun _ z=>Aq (AT am_ze24) (Ac z (Ab fun _ z=>Aq (AT am_ze144) (Ac z (Ab fun _ z=>Y EE (Ar _ false [_] am_in144 am_cl144 (h:=Ac z (Aj (Ab fun _ z=>Y (BH 0 am_fi141_0 am_cl3) (Y (AO am_ag3) (Y Ax (Y Aa (Ac z (Ev.block (AC (ι:={k:Nat // k=0∨(k=1∧c=false)}) [1,2] [10,11,29] (fun ⟨k,_⟩=>[(30,iL (k:Int))]) (fun ⟨k,_⟩=>[(0,⟨false,24,1,[[.lit (.slice none 0 0)]],true⟩),(1,⟨false,144,1,[[.fn (.func 66) [] [.sadr [iL (N:Int), .sh 2 (edg.map pairC)] 0, .adr 0 0 0, .adr 1 0 0]]],false⟩)]) (fun ⟨k,_⟩=>2 - k) ⟨0, .inl rfl⟩ (.c (.c (.c .n))) (Ag (h:=(Bd))) (Ae) ?_)))))))))))))));rintro ⟨k,hk⟩ R0 hR0;dsimp only [cA,nA,lC,lN];have hkc:k=0∨(k=1∧1≤N∧∀ r,Ck (Bt N [0]).length (CJ (Bt N [0]) edg) r→r.2=true):=hk.imp id (fun h=>⟨h.1,(hc.2 h.2).2⟩)
 have hkN:k≤N:=by rcases hkc with h | h <;> omega
 have hz:=hN;refine Ab fun _ z=>Y As (Ac z (AG (fun c3=>?_) (fun c3=>?_)))
 ·refine Aj (Ev.block (Ab fun _ z=>Y Aa (Y Ad (Ac z (Ab fun _ z=>Y (Ao am_ag144) (Y Aa (GH (ι:=Bool × List Int) (Φ:=(fun q:Bool × List Int=>(k=0→q.2=[]∧∃ r,Ck (Bt N []).length (CJ (Bt N []) edg) r∧r.2=q.1)∧(k=1→q=(true,[0])))) (vf:=(fun q=>bL q.1)) (lf:=(fun q=>FL N edg (Gr q.1 q.2))) [0,1] 2 (hob:=(Ag (h:=(Bd)))) (hF:=hck k hkc) (hn':=fun _=>B7 rfl rfl) (h:=fun q0 hq=>(Ac z (En (fun c4=>?_) (fun c4=>?_)))))))))))
  ·refine AA (hR0 _ _ ?_);have hq1:=(Qv hc hk hq).1 (by simp_all);rw [show Gr q0.1 q0.2= .sh 1 ((Ro c).map AD) by rw [← hq1];exact if_pos (by simp_all)];refine Ab fun _ z=>Y (Ao am_ag24) (Y Ad (Y Ad (Ac z (Ai (Cd ?_)))));rfl
  refine Am ?_;have hq2:=(Qv hc hk hq).2 (by simp_all);refine Ah fun _ z=>Y Ax (Y Aa (Ac z (hR0 _ _ (A4 [0,1] [10,11,29] ⟨k+1, .inr ⟨by omega,hq2.2⟩⟩ ?_ (Ag (he:=(by rw [show Gr q0.1 q0.2= .lit (.slice none 0 0) from if_neg (by simp_all)])) (h:=(Bd))) (Ae) (.c (.c (.c .n)))))));skip;all_goals (dsimp only;omega)
 omega
theorem S4 (f:Int→Nat):∀ U:List Int,U≠[]→∃ u ∈ U,∀ x ∈ U,f u≤f x
 |[],h=>absurd rfl h
 |a :: U,_=>by
  by_cases hU:U=[]
  ·subst hU;exact ⟨a,by simp,fun x hx=>by rw [List.mem_singleton] at hx;subst hx;exact Nat.le_refl _⟩
  ·obtain ⟨u,hu,hm⟩:=S4 f U hU
   by_cases h:f a≤f u
   ·exact ⟨a,by simp,fun x hx=>by
     rcases List.mem_cons.1 hx with rfl | hx
     ·exact Nat.le_refl _
     ·exact Nat.le_trans h (hm x hx)⟩
   ·exact ⟨u,by simp [hu],fun x hx=>by
     rcases List.mem_cons.1 hx with rfl | hx
     ·omega
     ·exact hm x hx⟩
theorem S3 (f:Int→Nat):∀ U:List Int,U≠[]→∃ u ∈ U,∀ x ∈ U,f x≤f u
 |[],h=>absurd rfl h
 |a :: U,_=>by
  by_cases hU:U=[]
  ·subst hU;exact ⟨a,by simp,fun x hx=>by rw [List.mem_singleton] at hx;subst hx;exact Nat.le_refl _⟩
  ·obtain ⟨u,hu,hm⟩:=S3 f U hU
   by_cases h:f u≤f a
   ·exact ⟨a,by simp,fun x hx=>by
     rcases List.mem_cons.1 hx with rfl | hx
     ·exact Nat.le_refl _
     ·exact Nat.le_trans (hm x hx) h⟩
   ·exact ⟨u,by simp [hu],fun x hx=>by
     rcases List.mem_cons.1 hx with rfl | hx
     ·omega
     ·exact hm x hx⟩
theorem MI {x y:Int} (h:max 0 x≤max 0 y):max 0 x * max 0 x≤max 0 y * max 0 y:=Int.mul_le_mul h h (by omega) (by omega)
theorem KS (a b:Bx) (k:Nat):Gv a b k=Gv b a k:=by unfold Gv;omega
theorem UX (a b:Bx):Ex a b=Ex b a:=by
 unfold Ex I2 I2 I2 I2
 rw [KS a b 0,KS a b 1,KS a b 2]
theorem Py {w l:Bx} (a:Int) (hw:Cg w):Ex (DJ w a) l≤Ex w l:=by
 obtain ⟨x1,y1,z1,x2,y2,z2⟩:=w
 unfold Cg at hw
 dsimp only at hw
 have key:∀ k,k < 3→max 0 (Gv (DJ ⟨x1,y1,z1,x2,y2,z2⟩ a) l k)≤max 0 (Gv ⟨x1,y1,z1,x2,y2,z2⟩ l k):=by
  intro k hk
  have h3:k=0∨k=1∨k=2:=by omega
  unfold DJ Gv FW Hn IK
  rcases h3 with rfl | rfl | rfl <;> (repeat' split) <;> (dsimp only;omega)
 have h0:=MI (key 0 (by decide));have h1:=MI (key 1 (by decide));have h2:=MI (key 2 (by decide))
 show I2 _ _ 3≤I2 _ _ 3
 simp only [I2];omega
theorem Rk {m n:Int}:Dt m n=m∨Dt m n=n:=by
 unfold Dt
 split
 ·exact .inr rfl
 exact .inl rfl
theorem LD (a:Bx):∀ (l:List Bx) (m:Int),DD a l m=m∨∃ b ∈ l,DD a l m=Ex a b
 |[],m=> .inl rfl
 |b :: l,m=>by
  rcases LD a l (Dt m (Ex a b)) with h | ⟨c,hc,h⟩
  ·have h2:DD a (b :: l) m=Dt m (Ex a b):=h
   rcases Rk (m:=m) (n:=Ex a b) with h3 | h3
   ·exact .inl (h2.trans h3)
   ·exact .inr ⟨b,by simp,h2.trans h3⟩
  ·exact .inr ⟨c,by simp [hc],h⟩
theorem LC (k:List Bx):∀ (l:List Bx) (m:Int),Et l k m=m∨∃ a ∈ l,∃ b ∈ k,Et l k m=Ex a b
 |[],m=> .inl rfl
 |a :: l,m=>by
  rcases LC k l (DD a k m) with h | ⟨c,hc,b,hb,h⟩
  ·have h2:Et (a :: l) k m=DD a k m:=h
   rcases LD a k m with h3 | ⟨b,hb,h3⟩
   ·exact .inl (h2.trans h3)
   ·exact .inr ⟨a,by simp,b,hb,h2.trans h3⟩
  ·exact .inr ⟨c,by simp [hc],b,hb,h⟩
theorem JQ {a:Bx} (ha:Cg a):∀ (l:List Bx) (m:Int),(∀ b ∈ l,Cg b)→0≤m→0≤DD a l m
 |[],m,_,h=>h
 |b :: l,m,ho,h=>JQ ha l _ (fun c hc=>ho c (by simp [hc])) (by have:=Mg ha (ho b (by simp));show 0≤Dt m (Ex a b);unfold Dt;split <;> omega)
theorem Nc {k:List Bx} (hk:∀ b ∈ k,Cg b):∀ (l:List Bx) (m:Int),(∀ b ∈ l,Cg b)→0≤m→0≤Et l k m
 |[],m,_,h=>h
 |a :: l,m,ho,h=>Nc hk l _ (fun c hc=>ho c (by simp [hc])) (JQ (ho a (by simp)) k m hk h)
theorem SI {l k:List Bx} (hl:∀ b ∈ l,Cg b) (hk:∀ b ∈ k,Cg b) (h1:1≤l.length) (h2:1≤k.length):0≤FF l k:=by
 rcases l with _ | ⟨a,l⟩
 ·simp at h1
 rcases k with _ | ⟨b,k⟩
 ·simp at h2
 show 0≤Et l (b :: k) (DD a k (Dt (-1) (Ex a b)))
 refine Nc hk l _ (fun c hc=>hl c (by simp [hc])) (JQ (hl a (by simp)) k _ (fun c hc=>hk c (by simp [hc])) ?_);have:=Mg (hl a (by simp)) (hk b (by simp))
 unfold Dt
 split <;> omega
theorem Rp (d e:Int):ET d e=ET e d:=by unfold ET;rw [Int.add_comm d e]
theorem U3 {i k:Rod} (hi:Iv i∧1≤i.1.length) (hk:Iv k∧1≤k.1.length) (h:Is i k) (a:Int):HF i k a∧HF k i a:=by
 unfold Is at h
 have h0:=SI hi.1.1 hk.1.1 hi.2 hk.2
 rcases LC k.1 i.1 (-1) with h1 | ⟨x,hx,y,hy,h1⟩
 ·have:FF i.1 k.1= -1:=h1;omega
 have h2:FF i.1 k.1=Ex x y:=h1;rw [h2] at h;refine ⟨⟨x,hx,y,hy,?_⟩,⟨y,hy,x,hx,?_⟩⟩
 ·have:=Py (l:=y) a (hi.1.1 x hx);omega
 have:=Py (l:=x) a (hk.1.1 y hy);rw [UX y x] at this;rw [Rp];omega
theorem SA {o pre suf:List Int} {p:Int} (he:o=pre ++ p :: suf) (hd:o.Nodup):o.idxOf p=pre.length∧∀ x ∈ o,¬ x ∈ pre→x≠p→pre.length < o.idxOf x:=by
 subst he
 have hp:¬ p ∈ pre:=fun h=>by
  rw [List.nodup_append] at hd;exact hd.2.2 p h p (by simp) rfl
 refine ⟨by rw [List.idxOf_append,if_neg hp];simp,fun x hx hn hne=>?_⟩;rw [List.idxOf_append,if_neg hn,List.idxOf_cons]
 have:(p == x)=false:=by simpa using fun e=>hne e.symm
 rw [this]
 simp
theorem M7 {bars:List Bar} {runs:List Rn} {N:Nat} {o a:List Int} (h:OS bars runs N o a) {p x:Int} (hp:p ∈ o) (hx:x ∈ o) (hne:x≠p):∃ ax,a[p.toNat]?= some ax∧ax ∈ six∧(Ep bars runs p x ax→o.idxOf p < o.idxOf x):=by
 obtain ⟨pre,suf,he⟩:=List.append_of_mem hp;have hd:o.Nodup:=h.1.nodup_iff.2 (Fr N);obtain ⟨ax,h1,h2,h3⟩:=h.2.2 pre p suf he;obtain ⟨h4,h5⟩:=SA he hd;exact ⟨ax,h1,h2,fun hb=>by rw [h4];exact h5 x hx (fun hin=>h3 x hin hb) hne⟩
theorem JU {bars:List Bar} {runs:List Rn} (hok:BV bars runs) {k i:Nat} (hk:k < (AR runs).toNat) (hi:i < (AR runs).toNat) (h:Is (BS bars runs k) (BS bars runs i)) (ax:Int):Ep bars runs k i ax∧Ep bars runs i k ax:=by
 have:=U3 (Eg hok (i:=k) (by omega)) (Eg hok (i:=i) (by omega)) h ax;exact this
theorem JW {bars:List Bar} {runs:List Rn} (hok:BV bars runs) {o a:List Int} (h:OS bars runs (AR runs).toNat o a):GJ bars runs:=by
 intro i hi k hk hn;obtain ⟨h1,h2⟩:=JU hok (k:=k) (i:=i) (by omega) hi hn 0;have mi:(i:Int) ∈ o:=h.1.mem_iff.2 (Dk.2 (by omega));have mk:(k:Int) ∈ o:=h.1.mem_iff.2 (Dk.2 (by omega));obtain ⟨ax,_,_,h3⟩:=M7 h mk mi (by omega);obtain ⟨ay,_,_,h4⟩:=M7 h mi mk (by omega);have h5:=h3 (JU hok (k:=k) (i:=i) (by omega) hi hn ax).1;have h6:=h4 (JU hok (k:=k) (i:=i) (by omega) hi hn ay).2;omega
theorem Rb {bars:List Bar} {runs:List Rn} (hok:BV bars runs) {by_ order:List Int} (h:Es (AR runs).toNat (Aw bars runs by_) order):GJ bars runs:=by
 intro i hi k hk hn;have e1:((k:Int),(i:Int)) ∈ Aw bars runs by_:=HN.2 ⟨k,i,by omega,hi,by omega,rfl,(JU hok (k:=k) (i:=i) (by omega) hi hn _).1⟩;have e2:((i:Int),(k:Int)) ∈ Aw bars runs by_:=HN.2 ⟨i,k,hi,by omega,by omega,rfl,(JU hok (k:=k) (i:=i) (by omega) hi hn _).2⟩;have h1:=(h.2.2.2 _ e1).2.2;have h2:=(h.2.2.2 _ e2).2.2
 dsimp only at h1 h2
 omega
theorem VL {runs:List Rn} {by_:List Int} (h:Eh runs by_=0) {i:Nat} (hi:(i:Int) < AR runs):∃ ax,by_[i]?= some ax∧ax ∈ six:=by
 unfold Eh at h
 split at h
 ·rename_i hl
  split at h
  ·omega
  rename_i hb
  refine ⟨by_[i]'(by omega),List.getElem?_eq_getElem _,Decidable.byContradiction fun hn=>hb ⟨_,List.getElem_mem (h:=(by omega:i < by_.length)),decide_eq_true hn⟩⟩
 omega
theorem T2 {bars:List Bar} {runs:List Rn} {by_ order:List Int} (hs:Ki bars runs (AR runs).toNat) (he:Eh runs by_=0) (h:Es (AR runs).toNat (Aw bars runs by_) order):False:=by
 obtain ⟨U,hU,hd,hr,hb⟩:=hs;obtain ⟨u,hu,hm⟩:=S3 (fun x=>order.idxOf x) U hU;have hur:=hr u hu;obtain ⟨ax,h1,h2⟩:=VL (by_:=by_) he (i:=u.toNat) (by omega);obtain ⟨x,hx,hne,hblk⟩:=hb u hu ax h2;have hxr:=hr x hx;have e1:(u,x) ∈ Aw bars runs by_:=HN.2 ⟨u.toNat,x.toNat,by omega,by omega,by omega,by rw [Int.toNat_of_nonneg hur.1,Int.toNat_of_nonneg hxr.1],by rw [h1,Int.toNat_of_nonneg hur.1,Int.toNat_of_nonneg hxr.1];exact hblk⟩;have h3:=(h.2.2.2 _ e1).2.2;have h4:=hm x hx
 dsimp only at h3 h4
 omega
theorem M6 {bars:List Bar} {runs:List Rn} {o a:List Int} (hnn:0≤AR runs) (h:OS bars runs (AR runs).toNat o a):Eh runs a=0:=by
 have hl:(a.length:Int)=AR runs:=by have:=h.2.1;omega
 unfold Eh
 rw [if_pos hl,if_neg];rintro ⟨ax,hax,hb⟩;obtain ⟨i,hi⟩:=List.getElem?_of_mem hax;have hil:=(List.getElem?_eq_some_iff.1 hi).1;have mi:(i:Int) ∈ o:=h.1.mem_iff.2 (Dk.2 (by omega));obtain ⟨pre,suf,he⟩:=List.append_of_mem mi;obtain ⟨ay,h1,h2,_⟩:=h.2.2 pre i suf he;rw [Int.toNat_natCast,hi] at h1
 cases h1
 exact absurd h2 (of_decide_eq_true hb)
theorem Rq (n:Nat):Bt n []=CC n:=by simp [Bt]
theorem LQ {n:Nat} {t:Int} (h:0≤t∧t < n):Hh (CC n) t=t.toNat:=by
 refine Kx (by rw [Ds];omega) (fun k x hk hx=>?_) (fun k x hk hx=>?_)
 ·have hl:=(List.getElem?_eq_some_iff.1 hx).1;rw [Ds] at hl
  simp [CC,hl] at hx
  omega
 have hl:=(List.getElem?_eq_some_iff.1 hx).1;rw [Ds] at hl
 simp [CC,hl] at hx
 omega
theorem U9 {n:Nat} {Aw:List (Int × Int)} (hE:FC n Aw):CJ (CC n) Aw=Aw:=by
 have hf:Aw.filter (Rt (CC n))=Aw:=List.filter_eq_self.2 fun e he=>decide_eq_true (p:=e.1 ∈ CC n∧e.2 ∈ CC n) ⟨Dk.2 (hE e he).1,Dk.2 (hE e he).2⟩
 unfold CJ
 rw [hf];refine (List.map_congr_left (g:=id) fun e he=>?_).trans (List.map_id _);obtain ⟨h1,h2⟩:=hE e he;rw [LQ h1,LQ h2,Int.toNat_of_nonneg h1.1,Int.toNat_of_nonneg h2.1];rfl
theorem Lh {bars:List Bar} {runs:List Rn} {o a:List Int} (h:OS bars runs (AR runs).toNat o a):NS (AR runs).toNat (Aw bars runs a) true:=by
 refine ⟨fun _ r hr=>?_,fun h=>Bool.noConfusion h⟩;rw [Rq,Ds,U9 (KW bars runs a)] at hr
 cases hb:r.2 with
 |true=>rfl
 |false =>
  exfalso
  obtain ⟨U,hU,hs⟩:=(hr.2 hb).2;obtain ⟨u,hu,hm⟩:=S4 (fun x=>o.idxOf x) U hU;obtain ⟨hur,e,he,he2,he1⟩:=hs u hu;obtain ⟨i,k,hi,hk,hik,rfl,hblk⟩:=HN.1 he
  try dsimp only at he2 he1
  subst he2;have mi:(i:Int) ∈ o:=h.1.mem_iff.2 (Dk.2 (by omega));have mk:(k:Int) ∈ o:=h.1.mem_iff.2 (Dk.2 (by omega));obtain ⟨ax,h1,_,h3⟩:=M7 h mi mk (by omega);rw [Int.toNat_natCast] at h1;rw [h1] at hblk;have h4:=h3 hblk;have h5:=hm _ he1
  try dsimp only at h5
  omega
theorem M5 {bars:List Bar} {runs:List Rn} {o a:List Int} (h:OS bars runs (AR runs).toNat o a) {pre suf:List Int} {k:Int} (he:pre ++ k :: suf=o):(0≤k∧k < (AR runs).toNat)∧∃ ax,a[k.toNat]?= some ax∧ax ∈ six∧EQ bars runs k ax pre=[]∧G6 (AR runs).toNat k pre:=by
 obtain ⟨ax,h1,h2,h3⟩:=h.2.2 pre k suf he.symm;have hd:o.Nodup:=h.1.nodup_iff.2 (Fr _);have hin:∀ x ∈ o,0≤x∧x < (AR runs).toNat:=fun x hx=>Dk.1 (h.1.mem_iff.1 hx);rw [← he,List.nodup_append] at hd;refine ⟨hin k (by rw [← he];simp),ax,h1,h2,List.filter_eq_nil_iff.2 fun x hx=>by rw [decide_eq_true_eq];exact h3 x hx,fun x hx=>?_,hd.1⟩;have hx2:=hin x (by rw [← he];simp [hx]);exact ⟨hx2.1,hx2.2,fun e=>hd.2.2 x hx k (by simp) e⟩
def HZ (r:Rn):Prop:=r.mark.length≤60∧¬ (r.n > 12∧r.n≤2000)
instance (r):Decidable (HZ r):=by unfold HZ;infer_instance
def ER (l:List Rn):Int:=l.foldl (fun a r=>if r.n > 0∧r.n≤12 then a+r.n else a) 0
theorem I4 (l:List Rn) (s:Rn):ER (l ++ [s])=if s.n > 0∧s.n≤12 then ER l+s.n else ER l:=by simp [ER]
theorem Mj {l:List Rn} {s:Rn} (h:s.n > 0) (h2:s.n≤12):ER (l ++ [s])=ER l+s.n:=by rw [I4,if_pos ⟨h,h2⟩]
theorem GV {l:List Rn} {s:Rn} (h:¬ (s.n > 0∧s.n≤12)):ER (l ++ [s])=ER l:=by rw [I4,if_neg h]
theorem sumT_bd:∀ l:List Rn,0≤ER l∧ER l≤12 * l.length:=by
 refine Ft ⟨Int.le_refl _,Int.le_refl _⟩ ?_;intro l s ih;rw [I4,List.length_append,List.length_singleton]
 split <;> omega
def Q6 (bars:List Bar) (runs:List Rn):Prop:=(bars.length≤6∨60 < bars.length∧bars.length≤63)∧(runs.length≤6∨60 < runs.length∧runs.length≤63)∧(∀ b ∈ bars,EK b)∧(∀ r ∈ runs,HZ r)∧(ER runs≤12∨runs.length > 6)
instance (bars runs):Decidable (Q6 bars runs):=by unfold Q6;infer_instance
theorem YN {l:List Rn}:(∀ r ∈ l,1≤r.n∧r.n≤12)→ER l=AR l:=by
 refine Ft (P:=fun l=>(∀ r ∈ l,1≤r.n∧r.n≤12)→ER l=AR l) (fun _=>rfl) (fun l s ih h=>?_) l;have hs:=h s (by simp);rw [I4,if_pos (by omega),Ff,ih (fun r hr=>h r (by simp [hr]))]
theorem YB {bars:List Bar} {runs:List Rn} (h:Q6 bars runs) (hok:BV bars runs):AR runs≤12:=by
 obtain ⟨_,h2,_,h4,h5⟩:=h;have h6:=hok.2.1
 have h7:ER runs≤12:=by omega
 rw [← YN fun r hr=>?_]
 ·exact h7
 have h8:=(hok.2.2.1 r hr).2.2.1;have h9:=(h4 r hr).2;omega
theorem PZ (bars:List Bar) (runs:List Rn) (h1:bars.length≤140737488355328) (h2:runs.length≤140737488355328):Fun Tryz.prog 52 [.sh 5 (bars.map Bar.c), .sh 10 (runs.map Rn.c),iL 6,iL 12] (AI (bL (decide (Q6 bars runs))) []):=by
 refine Fun.of (nt:=113) (rs:=[.tmp 8]) Tryz.func52 rfl rfl rfl rfl rfl (Ab fun _ k=>Y Ad (Ac k (Aj (Ab fun _ k=>Y Aa (Y (A5 am_el22) (Y Aa (Y Be (AS Aa (fun c1=>?_) (fun c1=>?_)))))))))
 ·refine Y Aa (Y (A5 am_el22) (Y Cb (Y AF (AS Aa (fun c2=>?_) (fun c2=>?_)))))
  ·refine Au (Bq (Y AF (Y Aa (Au (Au (Au (Au (Bq (Y AF (Y Aa (Au (Bq (Y AF (Ac k (BI (Ab fun _ k=>Y Ad (Ac k (Ai (Ap ?_)))))))))))))))))));exact bF (fun h=>by have h1:=h.1;have h2:=h.2.1;omega)
  refine Y Aa (Y (A5 am_el22) (Y Be (Y AE (AS Aa (fun c3=>?_) (fun c3=>?_)))))
  ·refine Au (Au (Au (Au (Bq (Y AF (Y Aa (Au (Bq (Y AF (Ac k (BI (Ab fun _ k=>Y Ad (Ac k (Ai (Ap ?_)))))))))))))));exact bF (fun h=>by have h1:=h.1;have h2:=h.2.1;omega)
  refine Y Aa (Y (A5 am_el23) (Y Aa (Y Be (AS Aa (fun c4=>?_) (fun c4=>?_)))))
  ·refine Y Aa (Y (A5 am_el23) (Y Cb (Y AF (Y AE (AS Aa (fun c5=>?_) (fun c5=>?_))))))
   ·refine Au (Bq (Y AF (Ac k (BI (Ab fun _ k=>Y Ad (Ac k (Ai (Ap ?_))))))));exact bF (fun h=>by have h1:=h.1;have h2:=h.2.1;omega)
   refine Y Aa (Y (A5 am_el23) (Y Be (Y AE (Ac k (Az (fun c6=>?_) (fun c6=>?_))))))
   ·refine Ab fun _ k=>Y Ad (Ac k (Ai (Ap ?_)));exact bF (fun h=>by have h1:=h.1;have h2:=h.2.1;omega)
   refine Am (Aj (Ab fun _ k=>Y Ad (Ac k (Ev.block (AC (ι:={q:List Bar × List Bar // q.1 ++ q.2=bars∧∀ b ∈ q.1,EK b}) [] [0,1,2,3] (fun ⟨(pre,suf),_⟩=>[(9,iL (pre.length:Int))]) (fun ⟨(pre,suf),_⟩=>[]) (fun ⟨(pre,suf),_⟩=>suf.length) ⟨([],bars),rfl,fun x hx=>by simp at hx⟩ (.c (.c (.c (.c .n)))) AN (Ae) ?_)))));rintro ⟨⟨pre,suf⟩,hp,hinv⟩ R0 hR0;dsimp only [cA,nA,lC,lN]
   simp only at hp hinv
   have hpl:=BO hp
   rcases suf with _ | ⟨s,suf⟩
   ·rw [List.append_nil] at hp;simp only [lN] at hpl;refine Aj (Ab fun _ k=>Y Aa (Y Aa (Y (A5 am_el22) (Y As (Ac k (Az (fun c7=>?_) (fun c7=>?_)))))))
    ·omega
    refine AA (hR0 _ _ ?_)
    have hba:∀ b ∈ bars,EK b:=by rw [← hp];exact hinv
    refine Ab fun _ k=>Y Ad (Ac k (Aj (Ab fun _ k=>Y Ad (Ac k (Ev.block (AC (ι:={q:List Rn × List Rn // q.1 ++ q.2=runs∧∀ b ∈ q.1,HZ b}) [] [1,2,3] (fun ⟨(pre,suf),_⟩=>[(11,iL (pre.length:Int)),(10,iL (ER pre))]) (fun ⟨(pre,suf),_⟩=>[]) (fun ⟨(pre,suf),_⟩=>suf.length) ⟨([],runs),rfl,fun x hx=>by simp at hx⟩ (.c (.c (.c .n))) AN (Ae (h:=(Ae))) ?_))))));rintro ⟨⟨pre,suf⟩,hp,hinv⟩ R2 hR2;dsimp only [cA,nA,lC,lN]
    simp only at hp hinv
    have hpl:=BO hp
    rcases suf with _ | ⟨s,suf⟩
    ·rw [List.append_nil] at hp;simp only [lN] at hpl;have hsp:=sumT_bd pre
     have hpe:(pre.length:Int)=(runs.length:Int):=by omega
     refine Aj (Ab fun _ k=>Y Aa (Y Aa (Y (A5 am_el23) (Y As (Ac k (Az (fun c8=>?_) (fun c8=>?_)))))))
     ·omega
     refine AA (hR2 _ _ (Ab fun _ k=>Y Aa (Y Aa (Y Cb (AS Aa (fun c9=>?_) (fun c9=>?_))))))
     ·refine Au (Au (Y AF (Y Ad (Ac k (Ai (Ap ?_))))));exact bT ⟨by omega,by omega,hba,by rw [← hp];exact hinv,by rw [← hp];exact .inl (by omega)⟩
     refine Y Aa (Y (A5 am_el23) (Y Aa (Y Be (Y AE (Y Ad (Ac k (Ai (Ap ?_))))))));exact dI ⟨fun h=>⟨by omega,by omega,hba,by rw [← hp];exact hinv,by exact .inr (by omega)⟩,fun h=>by have h1:=h.2.2.2.2;rw [← hp] at h1;omega⟩
    simp only [lC] at hpl;have hidx:=BM hp;have hms:=Gn hp;have hsp:=sumT_bd pre;refine Aj (Ab fun _ k=>Y Aa (Y Aa (Y (A5 am_el23) (Y As (Ac k (Az (fun c10=>?_) (fun c10=>?_)))))))
    ·refine Am (Aj (Ev.block (Aj (Ab fun _ k=>Y Aa (Y Aa (Y (AQ am_el23 am_cl194 (hl:=(by exact Ba hidx (by omega)))) (Y (BH 0 am_fi194_0 am_cl9) (Y (AO am_ag9) (Y (CB am_el9 am_un9) (Y Be (Ac k (Az (fun c11=>?_) (fun c11=>?_)))))))))))))
     ·refine Ab fun _ k=>Y Ad (Ac k (Ai (hR2 _ _ (Ap ?_))));exact bF (fun h=>by have h1:=(h.2.2.2.1 s hms).1;omega)
     refine Am (Aj (Ab fun _ k=>Y Aa (Y Aa (Y (AQ am_el23 am_cl194 (hl:=(by exact Ba hidx (by omega)))) (Y (BH 9 am_fi194_4 am_cl3) (Y (AO am_ag3) (Y Aa (Y Be (AS Aa (fun c12=>?_) (fun c12=>?_))))))))))
     ·refine Y Aa (Y Aa (Y (AQ am_el23 am_cl194 (hl:=(by exact Ba hidx (by omega)))) (Y (BH 9 am_fi194_4 am_cl3) (Y (AO am_ag3) (Y Cb (Y AF (Ac k (Az (fun c13=>?_) (fun c13=>?_)))))))))
      ·refine Ab fun _ k=>Y Ad (Ac k (Ai (hR2 _ _ (Ap ?_))));exact bF (fun h=>(h.2.2.2.1 s hms).2 ⟨by omega,by omega⟩)
      refine Am (Ab fun _ k=>Y Aa (Y Aa (Y (AQ am_el23 am_cl194 (hl:=(by exact Ba hidx (by omega)))) (Y (BH 9 am_fi194_4 am_cl3) (Y (AO am_ag3) (Y Be (AS Aa (fun c14=>?_) (fun c14=>?_))))))))
      ·refine Y Aa (Y Aa (Y (AQ am_el23 am_cl194 (hl:=(by exact Ba hidx (by omega)))) (Y (BH 9 am_fi194_4 am_cl3) (Y (AO am_ag3) (Y Aa (Y Cb (Y AF (Ac k (Az (fun c15=>?_) (fun c15=>?_))))))))))
       ·omega
       refine Am (Ah fun _ k=>Y Aa (Y Ax (Y Ad (Ac k (hR2 _ _ (A4 [] [1,2,3] ⟨(pre ++ [s],suf),Bu hp,?_⟩ B9 AN (Ae (he:=(by congr 2;simp)) (h:=(Ae (he:=(by exact iE (GV (by omega)).symm))))) (.c (.c (.c .n)))))))))
       intro x hx;simp only [List.mem_append,List.mem_singleton] at hx;rcases hx with hx | rfl
       ·exact hinv x hx
       ·exact ⟨by omega,by omega⟩
      omega
     refine Au (Au (Au (Y AE (Ac k (Cw (Am (Ab fun _ k=>Y Aa (Y Aa (Y (AQ am_el23 am_cl194 (hl:=(by exact Ba hidx (by omega)))) (Y (BH 9 am_fi194_4 am_cl3) (Y (AO am_ag3) (Y Be (AS Aa (fun c16=>?_) (fun c16=>?_))))))))))))))
     ·refine Y Aa (Y Aa (Y (AQ am_el23 am_cl194 (hl:=(by exact Ba hidx (by omega)))) (Y (BH 9 am_fi194_4 am_cl3) (Y (AO am_ag3) (Y Aa (Y Cb (Y AF (Ac k (Az (fun c17=>?_) (fun c17=>?_))))))))))
      ·refine Ah fun _ k=>Y Aa (Y Aa (Y Aa (Y (AQ am_el23 am_cl194 (hl:=(by exact Ba hidx (by omega)))) (Y (BH 9 am_fi194_4 am_cl3) (Y (AO am_ag3) (Y Ax (Y Ad (Ac k ?_))))))));show Ev _ _ _ _;refine Ah fun _ k=>Y Aa (Y Ax (Y Ad (Ac k (hR2 _ _ (A4 [] [1,2,3] ⟨(pre ++ [s],suf),Bu hp,?_⟩ B9 AN (Ae (he:=(by congr 2;simp)) (h:=(Ae (he:=(by exact iE (Mj (by omega) (by omega)).symm))))) (.c (.c (.c .n))))))))
       intro x hx;simp only [List.mem_append,List.mem_singleton] at hx;rcases hx with hx | rfl
       ·exact hinv x hx
       ·exact ⟨by omega,by omega⟩
      omega
     refine Au (Au (Au (Bq (Y AE (Ac k (Cw (Am (Ah fun _ k=>Y Aa (Y Ax (Y Ad (Ac k (hR2 _ _ (A4 [] [1,2,3] ⟨(pre ++ [s],suf),Bu hp,?_⟩ B9 AN (Ae (he:=(by congr 2;simp)) (h:=(Ae (he:=(by exact iE (GV (by omega)).symm))))) (.c (.c (.c .n))))))))))))))))
     intro x hx;simp only [List.mem_append,List.mem_singleton] at hx;rcases hx with hx | rfl
     ·exact hinv x hx
     ·exact ⟨by omega,by omega⟩
    omega
   simp only [lC] at hpl;have hidx:=BM hp;have hms:=Gn hp;refine Aj (Ab fun _ k=>Y Aa (Y Aa (Y (A5 am_el22) (Y As (Ac k (Az (fun c18=>?_) (fun c18=>?_)))))))
   ·refine Am (Aj (Ev.block (Ab fun _ k=>Y Aa (Y Aa (Y (AQ am_el22 am_cl168 (hl:=(by exact Ba hidx (by omega)))) (Y (Bv _ am_ag168 am_cl168) (Ay (hF:=I1 s) (h:=Y Bw (Ac k (Bh (fun c19=>?_) (fun c19=>?_)))))))))))
    ·refine Ab fun _ k=>Y Ad (Ac k (Ai (hR0 _ _ (Ap ?_))));exact bF (fun h=>absurd (h.2.2.1 s hms) ‹_›)
    refine Am (Ah fun _ k=>Y Aa (Y Ax (Y Ad (Ac k (hR0 _ _ (A4 [] [0,1,2,3] ⟨(pre ++ [s],suf),Bu hp,?_⟩ B9 AN (Ae (he:=(by congr 2;simp))) (.c (.c (.c (.c .n))))))))))
    intro x hx;simp only [List.mem_append,List.mem_singleton] at hx;rcases hx with hx | rfl
    ·exact hinv x hx
    ·assumption
   omega
  refine Au (Bq (Y AE (Y AE (Y Aa (Y Aa (Y (A5 am_el23) (Y Be (Y AE (Ac k (Az (fun c20=>?_) (fun c20=>?_)))))))))))
  ·omega
  refine Am (Aj (Ab fun _ k=>Y Ad (Ac k (Ev.block (AC (ι:={q:List Bar × List Bar // q.1 ++ q.2=bars∧∀ b ∈ q.1,EK b}) [] [0,1,2,3] (fun ⟨(pre,suf),_⟩=>[(9,iL (pre.length:Int))]) (fun ⟨(pre,suf),_⟩=>[]) (fun ⟨(pre,suf),_⟩=>suf.length) ⟨([],bars),rfl,fun x hx=>by simp at hx⟩ (.c (.c (.c (.c .n)))) AN (Ae) ?_)))));rintro ⟨⟨pre,suf⟩,hp,hinv⟩ R0 hR0;dsimp only [cA,nA,lC,lN]
  simp only at hp hinv
  have hpl:=BO hp
  rcases suf with _ | ⟨s,suf⟩
  ·rw [List.append_nil] at hp;simp only [lN] at hpl;refine Aj (Ab fun _ k=>Y Aa (Y Aa (Y (A5 am_el22) (Y As (Ac k (Az (fun c21=>?_) (fun c21=>?_)))))))
   ·omega
   refine AA (hR0 _ _ ?_)
   have hba:∀ b ∈ bars,EK b:=by rw [← hp];exact hinv
   refine Ab fun _ k=>Y Ad (Ac k (Aj (Ab fun _ k=>Y Ad (Ac k (Ev.block (AC (ι:={q:List Rn × List Rn // q.1 ++ q.2=runs∧∀ b ∈ q.1,HZ b}) [] [1,2,3] (fun ⟨(pre,suf),_⟩=>[(11,iL (pre.length:Int)),(10,iL (ER pre))]) (fun ⟨(pre,suf),_⟩=>[]) (fun ⟨(pre,suf),_⟩=>suf.length) ⟨([],runs),rfl,fun x hx=>by simp at hx⟩ (.c (.c (.c .n))) AN (Ae (h:=(Ae))) ?_))))));rintro ⟨⟨pre,suf⟩,hp,hinv⟩ R2 hR2;dsimp only [cA,nA,lC,lN]
   simp only at hp hinv
   have hpl:=BO hp
   rcases suf with _ | ⟨s,suf⟩
   ·rw [List.append_nil] at hp;simp only [lN] at hpl;have hsp:=sumT_bd pre
    have hpe:(pre.length:Int)=(runs.length:Int):=by omega
    refine Aj (Ab fun _ k=>Y Aa (Y Aa (Y (A5 am_el23) (Y As (Ac k (Az (fun c22=>?_) (fun c22=>?_)))))))
    ·omega
    refine AA (hR2 _ _ (Ab fun _ k=>Y Aa (Y Aa (Y Cb (AS Aa (fun c23=>?_) (fun c23=>?_))))))
    ·refine Au (Au (Y AF (Y Ad (Ac k (Ai (Ap ?_))))));exact bT ⟨by omega,by omega,hba,by rw [← hp];exact hinv,by rw [← hp];exact .inl (by omega)⟩
    refine Y Aa (Y (A5 am_el23) (Y Aa (Y Be (Y AE (Y Ad (Ac k (Ai (Ap ?_))))))));exact dI ⟨fun h=>⟨by omega,by omega,hba,by rw [← hp];exact hinv,by exact .inr (by omega)⟩,fun h=>by have h1:=h.2.2.2.2;rw [← hp] at h1;omega⟩
   simp only [lC] at hpl;have hidx:=BM hp;have hms:=Gn hp;have hsp:=sumT_bd pre;refine Aj (Ab fun _ k=>Y Aa (Y Aa (Y (A5 am_el23) (Y As (Ac k (Az (fun c24=>?_) (fun c24=>?_)))))))
   ·refine Am (Aj (Ev.block (Aj (Ab fun _ k=>Y Aa (Y Aa (Y (AQ am_el23 am_cl194 (hl:=(by exact Ba hidx (by omega)))) (Y (BH 0 am_fi194_0 am_cl9) (Y (AO am_ag9) (Y (CB am_el9 am_un9) (Y Be (Ac k (Az (fun c25=>?_) (fun c25=>?_)))))))))))))
    ·refine Ab fun _ k=>Y Ad (Ac k (Ai (hR2 _ _ (Ap ?_))));exact bF (fun h=>by have h1:=(h.2.2.2.1 s hms).1;omega)
    refine Am (Aj (Ab fun _ k=>Y Aa (Y Aa (Y (AQ am_el23 am_cl194 (hl:=(by exact Ba hidx (by omega)))) (Y (BH 9 am_fi194_4 am_cl3) (Y (AO am_ag3) (Y Aa (Y Be (AS Aa (fun c26=>?_) (fun c26=>?_))))))))))
    ·refine Y Aa (Y Aa (Y (AQ am_el23 am_cl194 (hl:=(by exact Ba hidx (by omega)))) (Y (BH 9 am_fi194_4 am_cl3) (Y (AO am_ag3) (Y Cb (Y AF (Ac k (Az (fun c27=>?_) (fun c27=>?_)))))))))
     ·refine Ab fun _ k=>Y Ad (Ac k (Ai (hR2 _ _ (Ap ?_))));exact bF (fun h=>(h.2.2.2.1 s hms).2 ⟨by omega,by omega⟩)
     refine Am (Ab fun _ k=>Y Aa (Y Aa (Y (AQ am_el23 am_cl194 (hl:=(by exact Ba hidx (by omega)))) (Y (BH 9 am_fi194_4 am_cl3) (Y (AO am_ag3) (Y Be (AS Aa (fun c28=>?_) (fun c28=>?_))))))))
     ·refine Y Aa (Y Aa (Y (AQ am_el23 am_cl194 (hl:=(by exact Ba hidx (by omega)))) (Y (BH 9 am_fi194_4 am_cl3) (Y (AO am_ag3) (Y Aa (Y Cb (Y AF (Ac k (Az (fun c29=>?_) (fun c29=>?_))))))))))
      ·omega
      refine Am (Ah fun _ k=>Y Aa (Y Ax (Y Ad (Ac k (hR2 _ _ (A4 [] [1,2,3] ⟨(pre ++ [s],suf),Bu hp,?_⟩ B9 AN (Ae (he:=(by congr 2;simp)) (h:=(Ae (he:=(by exact iE (GV (by omega)).symm))))) (.c (.c (.c .n)))))))))
      intro x hx;simp only [List.mem_append,List.mem_singleton] at hx;rcases hx with hx | rfl
      ·exact hinv x hx
      ·exact ⟨by omega,by omega⟩
     omega
    refine Au (Au (Au (Y AE (Ac k (Cw (Am (Ab fun _ k=>Y Aa (Y Aa (Y (AQ am_el23 am_cl194 (hl:=(by exact Ba hidx (by omega)))) (Y (BH 9 am_fi194_4 am_cl3) (Y (AO am_ag3) (Y Be (AS Aa (fun c30=>?_) (fun c30=>?_))))))))))))))
    ·refine Y Aa (Y Aa (Y (AQ am_el23 am_cl194 (hl:=(by exact Ba hidx (by omega)))) (Y (BH 9 am_fi194_4 am_cl3) (Y (AO am_ag3) (Y Aa (Y Cb (Y AF (Ac k (Az (fun c31=>?_) (fun c31=>?_))))))))))
     ·refine Ah fun _ k=>Y Aa (Y Aa (Y Aa (Y (AQ am_el23 am_cl194 (hl:=(by exact Ba hidx (by omega)))) (Y (BH 9 am_fi194_4 am_cl3) (Y (AO am_ag3) (Y Ax (Y Ad (Ac k ?_))))))));show Ev _ _ _ _;refine Ah fun _ k=>Y Aa (Y Ax (Y Ad (Ac k (hR2 _ _ (A4 [] [1,2,3] ⟨(pre ++ [s],suf),Bu hp,?_⟩ B9 AN (Ae (he:=(by congr 2;simp)) (h:=(Ae (he:=(by exact iE (Mj (by omega) (by omega)).symm))))) (.c (.c (.c .n))))))))
      intro x hx;simp only [List.mem_append,List.mem_singleton] at hx;rcases hx with hx | rfl
      ·exact hinv x hx
      ·exact ⟨by omega,by omega⟩
     omega
    refine Au (Au (Au (Bq (Y AE (Ac k (Cw (Am (Ah fun _ k=>Y Aa (Y Ax (Y Ad (Ac k (hR2 _ _ (A4 [] [1,2,3] ⟨(pre ++ [s],suf),Bu hp,?_⟩ B9 AN (Ae (he:=(by congr 2;simp)) (h:=(Ae (he:=(by exact iE (GV (by omega)).symm))))) (.c (.c (.c .n))))))))))))))))
    intro x hx;simp only [List.mem_append,List.mem_singleton] at hx;rcases hx with hx | rfl
    ·exact hinv x hx
    ·exact ⟨by omega,by omega⟩
   omega
  simp only [lC] at hpl;have hidx:=BM hp;have hms:=Gn hp;refine Aj (Ab fun _ k=>Y Aa (Y Aa (Y (A5 am_el22) (Y As (Ac k (Az (fun c32=>?_) (fun c32=>?_)))))))
  ·refine Am (Aj (Ev.block (Ab fun _ k=>Y Aa (Y Aa (Y (AQ am_el22 am_cl168 (hl:=(by exact Ba hidx (by omega)))) (Y (Bv _ am_ag168 am_cl168) (Ay (hF:=I1 s) (h:=Y Bw (Ac k (Bh (fun c33=>?_) (fun c33=>?_)))))))))))
   ·refine Ab fun _ k=>Y Ad (Ac k (Ai (hR0 _ _ (Ap ?_))));exact bF (fun h=>absurd (h.2.2.1 s hms) ‹_›)
   refine Am (Ah fun _ k=>Y Aa (Y Ax (Y Ad (Ac k (hR0 _ _ (A4 [] [0,1,2,3] ⟨(pre ++ [s],suf),Bu hp,?_⟩ B9 AN (Ae (he:=(by congr 2;simp))) (.c (.c (.c (.c .n))))))))))
   intro x hx;simp only [List.mem_append,List.mem_singleton] at hx;rcases hx with hx | rfl
   ·exact hinv x hx
   ·assumption
  omega
 refine Au (Bq (Y AE (Y Aa (Y Aa (Y (A5 am_el22) (Y Be (Y AE (AS Aa (fun c34=>?_) (fun c34=>?_)))))))))
 ·omega
 refine Y Aa (Y (A5 am_el23) (Y Aa (Y Be (AS Aa (fun c35=>?_) (fun c35=>?_)))))
 ·refine Y Aa (Y (A5 am_el23) (Y Cb (Y AF (Y AE (AS Aa (fun c36=>?_) (fun c36=>?_))))))
  ·refine Au (Bq (Y AF (Ac k (BI (Ab fun _ k=>Y Ad (Ac k (Ai (Ap ?_))))))));exact bF (fun h=>by have h1:=h.1;have h2:=h.2.1;omega)
  refine Y Aa (Y (A5 am_el23) (Y Be (Y AE (Ac k (Az (fun c37=>?_) (fun c37=>?_))))))
  ·refine Ab fun _ k=>Y Ad (Ac k (Ai (Ap ?_)));exact bF (fun h=>by have h1:=h.1;have h2:=h.2.1;omega)
  refine Am (Aj (Ab fun _ k=>Y Ad (Ac k (Ev.block (AC (ι:={q:List Bar × List Bar // q.1 ++ q.2=bars∧∀ b ∈ q.1,EK b}) [] [0,1,2,3] (fun ⟨(pre,suf),_⟩=>[(9,iL (pre.length:Int))]) (fun ⟨(pre,suf),_⟩=>[]) (fun ⟨(pre,suf),_⟩=>suf.length) ⟨([],bars),rfl,fun x hx=>by simp at hx⟩ (.c (.c (.c (.c .n)))) AN (Ae) ?_)))));rintro ⟨⟨pre,suf⟩,hp,hinv⟩ R0 hR0;dsimp only [cA,nA,lC,lN]
  simp only at hp hinv
  have hpl:=BO hp
  rcases suf with _ | ⟨s,suf⟩
  ·rw [List.append_nil] at hp;simp only [lN] at hpl;refine Aj (Ab fun _ k=>Y Aa (Y Aa (Y (A5 am_el22) (Y As (Ac k (Az (fun c38=>?_) (fun c38=>?_)))))))
   ·omega
   refine AA (hR0 _ _ ?_)
   have hba:∀ b ∈ bars,EK b:=by rw [← hp];exact hinv
   refine Ab fun _ k=>Y Ad (Ac k (Aj (Ab fun _ k=>Y Ad (Ac k (Ev.block (AC (ι:={q:List Rn × List Rn // q.1 ++ q.2=runs∧∀ b ∈ q.1,HZ b}) [] [1,2,3] (fun ⟨(pre,suf),_⟩=>[(11,iL (pre.length:Int)),(10,iL (ER pre))]) (fun ⟨(pre,suf),_⟩=>[]) (fun ⟨(pre,suf),_⟩=>suf.length) ⟨([],runs),rfl,fun x hx=>by simp at hx⟩ (.c (.c (.c .n))) AN (Ae (h:=(Ae))) ?_))))));rintro ⟨⟨pre,suf⟩,hp,hinv⟩ R2 hR2;dsimp only [cA,nA,lC,lN]
   simp only at hp hinv
   have hpl:=BO hp
   rcases suf with _ | ⟨s,suf⟩
   ·rw [List.append_nil] at hp;simp only [lN] at hpl;have hsp:=sumT_bd pre
    have hpe:(pre.length:Int)=(runs.length:Int):=by omega
    refine Aj (Ab fun _ k=>Y Aa (Y Aa (Y (A5 am_el23) (Y As (Ac k (Az (fun c39=>?_) (fun c39=>?_)))))))
    ·omega
    refine AA (hR2 _ _ (Ab fun _ k=>Y Aa (Y Aa (Y Cb (AS Aa (fun c40=>?_) (fun c40=>?_))))))
    ·refine Au (Au (Y AF (Y Ad (Ac k (Ai (Ap ?_))))));exact bT ⟨by omega,by omega,hba,by rw [← hp];exact hinv,by rw [← hp];exact .inl (by omega)⟩
    refine Y Aa (Y (A5 am_el23) (Y Aa (Y Be (Y AE (Y Ad (Ac k (Ai (Ap ?_))))))));exact dI ⟨fun h=>⟨by omega,by omega,hba,by rw [← hp];exact hinv,by exact .inr (by omega)⟩,fun h=>by have h1:=h.2.2.2.2;rw [← hp] at h1;omega⟩
   simp only [lC] at hpl;have hidx:=BM hp;have hms:=Gn hp;have hsp:=sumT_bd pre;refine Aj (Ab fun _ k=>Y Aa (Y Aa (Y (A5 am_el23) (Y As (Ac k (Az (fun c41=>?_) (fun c41=>?_)))))))
   ·refine Am (Aj (Ev.block (Aj (Ab fun _ k=>Y Aa (Y Aa (Y (AQ am_el23 am_cl194 (hl:=(by exact Ba hidx (by omega)))) (Y (BH 0 am_fi194_0 am_cl9) (Y (AO am_ag9) (Y (CB am_el9 am_un9) (Y Be (Ac k (Az (fun c42=>?_) (fun c42=>?_)))))))))))))
    ·refine Ab fun _ k=>Y Ad (Ac k (Ai (hR2 _ _ (Ap ?_))));exact bF (fun h=>by have h1:=(h.2.2.2.1 s hms).1;omega)
    refine Am (Aj (Ab fun _ k=>Y Aa (Y Aa (Y (AQ am_el23 am_cl194 (hl:=(by exact Ba hidx (by omega)))) (Y (BH 9 am_fi194_4 am_cl3) (Y (AO am_ag3) (Y Aa (Y Be (AS Aa (fun c43=>?_) (fun c43=>?_))))))))))
    ·refine Y Aa (Y Aa (Y (AQ am_el23 am_cl194 (hl:=(by exact Ba hidx (by omega)))) (Y (BH 9 am_fi194_4 am_cl3) (Y (AO am_ag3) (Y Cb (Y AF (Ac k (Az (fun c44=>?_) (fun c44=>?_)))))))))
     ·refine Ab fun _ k=>Y Ad (Ac k (Ai (hR2 _ _ (Ap ?_))));exact bF (fun h=>(h.2.2.2.1 s hms).2 ⟨by omega,by omega⟩)
     refine Am (Ab fun _ k=>Y Aa (Y Aa (Y (AQ am_el23 am_cl194 (hl:=(by exact Ba hidx (by omega)))) (Y (BH 9 am_fi194_4 am_cl3) (Y (AO am_ag3) (Y Be (AS Aa (fun c45=>?_) (fun c45=>?_))))))))
     ·refine Y Aa (Y Aa (Y (AQ am_el23 am_cl194 (hl:=(by exact Ba hidx (by omega)))) (Y (BH 9 am_fi194_4 am_cl3) (Y (AO am_ag3) (Y Aa (Y Cb (Y AF (Ac k (Az (fun c46=>?_) (fun c46=>?_))))))))))
      ·omega
      refine Am (Ah fun _ k=>Y Aa (Y Ax (Y Ad (Ac k (hR2 _ _ (A4 [] [1,2,3] ⟨(pre ++ [s],suf),Bu hp,?_⟩ B9 AN (Ae (he:=(by congr 2;simp)) (h:=(Ae (he:=(by exact iE (GV (by omega)).symm))))) (.c (.c (.c .n)))))))))
      intro x hx;simp only [List.mem_append,List.mem_singleton] at hx;rcases hx with hx | rfl
      ·exact hinv x hx
      ·exact ⟨by omega,by omega⟩
     omega
    refine Au (Au (Au (Y AE (Ac k (Cw (Am (Ab fun _ k=>Y Aa (Y Aa (Y (AQ am_el23 am_cl194 (hl:=(by exact Ba hidx (by omega)))) (Y (BH 9 am_fi194_4 am_cl3) (Y (AO am_ag3) (Y Be (AS Aa (fun c47=>?_) (fun c47=>?_))))))))))))))
    ·refine Y Aa (Y Aa (Y (AQ am_el23 am_cl194 (hl:=(by exact Ba hidx (by omega)))) (Y (BH 9 am_fi194_4 am_cl3) (Y (AO am_ag3) (Y Aa (Y Cb (Y AF (Ac k (Az (fun c48=>?_) (fun c48=>?_))))))))))
     ·refine Ah fun _ k=>Y Aa (Y Aa (Y Aa (Y (AQ am_el23 am_cl194 (hl:=(by exact Ba hidx (by omega)))) (Y (BH 9 am_fi194_4 am_cl3) (Y (AO am_ag3) (Y Ax (Y Ad (Ac k ?_))))))));show Ev _ _ _ _;refine Ah fun _ k=>Y Aa (Y Ax (Y Ad (Ac k (hR2 _ _ (A4 [] [1,2,3] ⟨(pre ++ [s],suf),Bu hp,?_⟩ B9 AN (Ae (he:=(by congr 2;simp)) (h:=(Ae (he:=(by exact iE (Mj (by omega) (by omega)).symm))))) (.c (.c (.c .n))))))))
      intro x hx;simp only [List.mem_append,List.mem_singleton] at hx;rcases hx with hx | rfl
      ·exact hinv x hx
      ·exact ⟨by omega,by omega⟩
     omega
    refine Au (Au (Au (Bq (Y AE (Ac k (Cw (Am (Ah fun _ k=>Y Aa (Y Ax (Y Ad (Ac k (hR2 _ _ (A4 [] [1,2,3] ⟨(pre ++ [s],suf),Bu hp,?_⟩ B9 AN (Ae (he:=(by congr 2;simp)) (h:=(Ae (he:=(by exact iE (GV (by omega)).symm))))) (.c (.c (.c .n))))))))))))))))
    intro x hx;simp only [List.mem_append,List.mem_singleton] at hx;rcases hx with hx | rfl
    ·exact hinv x hx
    ·exact ⟨by omega,by omega⟩
   omega
  simp only [lC] at hpl;have hidx:=BM hp;have hms:=Gn hp;refine Aj (Ab fun _ k=>Y Aa (Y Aa (Y (A5 am_el22) (Y As (Ac k (Az (fun c49=>?_) (fun c49=>?_)))))))
  ·refine Am (Aj (Ev.block (Ab fun _ k=>Y Aa (Y Aa (Y (AQ am_el22 am_cl168 (hl:=(by exact Ba hidx (by omega)))) (Y (Bv _ am_ag168 am_cl168) (Ay (hF:=I1 s) (h:=Y Bw (Ac k (Bh (fun c50=>?_) (fun c50=>?_)))))))))))
   ·refine Ab fun _ k=>Y Ad (Ac k (Ai (hR0 _ _ (Ap ?_))));exact bF (fun h=>absurd (h.2.2.1 s hms) ‹_›)
   refine Am (Ah fun _ k=>Y Aa (Y Ax (Y Ad (Ac k (hR0 _ _ (A4 [] [0,1,2,3] ⟨(pre ++ [s],suf),Bu hp,?_⟩ B9 AN (Ae (he:=(by congr 2;simp))) (.c (.c (.c (.c .n))))))))))
   intro x hx;simp only [List.mem_append,List.mem_singleton] at hx;rcases hx with hx | rfl
   ·exact hinv x hx
   ·assumption
  omega
 refine Au (Bq (Y AE (Y AE (Y Aa (Y Aa (Y (A5 am_el23) (Y Be (Y AE (Ac k (Az (fun c51=>?_) (fun c51=>?_)))))))))))
 ·omega
 refine Am (Aj (Ab fun _ k=>Y Ad (Ac k (Ev.block (AC (ι:={q:List Bar × List Bar // q.1 ++ q.2=bars∧∀ b ∈ q.1,EK b}) [] [0,1,2,3] (fun ⟨(pre,suf),_⟩=>[(9,iL (pre.length:Int))]) (fun ⟨(pre,suf),_⟩=>[]) (fun ⟨(pre,suf),_⟩=>suf.length) ⟨([],bars),rfl,fun x hx=>by simp at hx⟩ (.c (.c (.c (.c .n)))) AN (Ae) ?_)))));rintro ⟨⟨pre,suf⟩,hp,hinv⟩ R0 hR0;dsimp only [cA,nA,lC,lN]
 simp only at hp hinv
 have hpl:=BO hp
 rcases suf with _ | ⟨s,suf⟩
 ·rw [List.append_nil] at hp;simp only [lN] at hpl;refine Aj (Ab fun _ k=>Y Aa (Y Aa (Y (A5 am_el22) (Y As (Ac k (Az (fun c52=>?_) (fun c52=>?_)))))))
  ·omega
  refine AA (hR0 _ _ ?_)
  have hba:∀ b ∈ bars,EK b:=by rw [← hp];exact hinv
  refine Ab fun _ k=>Y Ad (Ac k (Aj (Ab fun _ k=>Y Ad (Ac k (Ev.block (AC (ι:={q:List Rn × List Rn // q.1 ++ q.2=runs∧∀ b ∈ q.1,HZ b}) [] [1,2,3] (fun ⟨(pre,suf),_⟩=>[(11,iL (pre.length:Int)),(10,iL (ER pre))]) (fun ⟨(pre,suf),_⟩=>[]) (fun ⟨(pre,suf),_⟩=>suf.length) ⟨([],runs),rfl,fun x hx=>by simp at hx⟩ (.c (.c (.c .n))) AN (Ae (h:=(Ae))) ?_))))));rintro ⟨⟨pre,suf⟩,hp,hinv⟩ R2 hR2;dsimp only [cA,nA,lC,lN]
  simp only at hp hinv
  have hpl:=BO hp
  rcases suf with _ | ⟨s,suf⟩
  ·rw [List.append_nil] at hp;simp only [lN] at hpl;have hsp:=sumT_bd pre
   have hpe:(pre.length:Int)=(runs.length:Int):=by omega
   refine Aj (Ab fun _ k=>Y Aa (Y Aa (Y (A5 am_el23) (Y As (Ac k (Az (fun c53=>?_) (fun c53=>?_)))))))
   ·omega
   refine AA (hR2 _ _ (Ab fun _ k=>Y Aa (Y Aa (Y Cb (AS Aa (fun c54=>?_) (fun c54=>?_))))))
   ·refine Au (Au (Y AF (Y Ad (Ac k (Ai (Ap ?_))))));exact bT ⟨by omega,by omega,hba,by rw [← hp];exact hinv,by rw [← hp];exact .inl (by omega)⟩
   refine Y Aa (Y (A5 am_el23) (Y Aa (Y Be (Y AE (Y Ad (Ac k (Ai (Ap ?_))))))));exact dI ⟨fun h=>⟨by omega,by omega,hba,by rw [← hp];exact hinv,by exact .inr (by omega)⟩,fun h=>by have h1:=h.2.2.2.2;rw [← hp] at h1;omega⟩
  simp only [lC] at hpl;have hidx:=BM hp;have hms:=Gn hp;have hsp:=sumT_bd pre;refine Aj (Ab fun _ k=>Y Aa (Y Aa (Y (A5 am_el23) (Y As (Ac k (Az (fun c55=>?_) (fun c55=>?_)))))))
  ·refine Am (Aj (Ev.block (Aj (Ab fun _ k=>Y Aa (Y Aa (Y (AQ am_el23 am_cl194 (hl:=(by exact Ba hidx (by omega)))) (Y (BH 0 am_fi194_0 am_cl9) (Y (AO am_ag9) (Y (CB am_el9 am_un9) (Y Be (Ac k (Az (fun c56=>?_) (fun c56=>?_)))))))))))))
   ·refine Ab fun _ k=>Y Ad (Ac k (Ai (hR2 _ _ (Ap ?_))));exact bF (fun h=>by have h1:=(h.2.2.2.1 s hms).1;omega)
   refine Am (Aj (Ab fun _ k=>Y Aa (Y Aa (Y (AQ am_el23 am_cl194 (hl:=(by exact Ba hidx (by omega)))) (Y (BH 9 am_fi194_4 am_cl3) (Y (AO am_ag3) (Y Aa (Y Be (AS Aa (fun c57=>?_) (fun c57=>?_))))))))))
   ·refine Y Aa (Y Aa (Y (AQ am_el23 am_cl194 (hl:=(by exact Ba hidx (by omega)))) (Y (BH 9 am_fi194_4 am_cl3) (Y (AO am_ag3) (Y Cb (Y AF (Ac k (Az (fun c58=>?_) (fun c58=>?_)))))))))
    ·refine Ab fun _ k=>Y Ad (Ac k (Ai (hR2 _ _ (Ap ?_))));exact bF (fun h=>(h.2.2.2.1 s hms).2 ⟨by omega,by omega⟩)
    refine Am (Ab fun _ k=>Y Aa (Y Aa (Y (AQ am_el23 am_cl194 (hl:=(by exact Ba hidx (by omega)))) (Y (BH 9 am_fi194_4 am_cl3) (Y (AO am_ag3) (Y Be (AS Aa (fun c59=>?_) (fun c59=>?_))))))))
    ·refine Y Aa (Y Aa (Y (AQ am_el23 am_cl194 (hl:=(by exact Ba hidx (by omega)))) (Y (BH 9 am_fi194_4 am_cl3) (Y (AO am_ag3) (Y Aa (Y Cb (Y AF (Ac k (Az (fun c60=>?_) (fun c60=>?_))))))))))
     ·omega
     refine Am (Ah fun _ k=>Y Aa (Y Ax (Y Ad (Ac k (hR2 _ _ (A4 [] [1,2,3] ⟨(pre ++ [s],suf),Bu hp,?_⟩ B9 AN (Ae (he:=(by congr 2;simp)) (h:=(Ae (he:=(by exact iE (GV (by omega)).symm))))) (.c (.c (.c .n)))))))))
     intro x hx;simp only [List.mem_append,List.mem_singleton] at hx;rcases hx with hx | rfl
     ·exact hinv x hx
     ·exact ⟨by omega,by omega⟩
    omega
   refine Au (Au (Au (Y AE (Ac k (Cw (Am (Ab fun _ k=>Y Aa (Y Aa (Y (AQ am_el23 am_cl194 (hl:=(by exact Ba hidx (by omega)))) (Y (BH 9 am_fi194_4 am_cl3) (Y (AO am_ag3) (Y Be (AS Aa (fun c61=>?_) (fun c61=>?_))))))))))))))
   ·refine Y Aa (Y Aa (Y (AQ am_el23 am_cl194 (hl:=(by exact Ba hidx (by omega)))) (Y (BH 9 am_fi194_4 am_cl3) (Y (AO am_ag3) (Y Aa (Y Cb (Y AF (Ac k (Az (fun c62=>?_) (fun c62=>?_))))))))))
    ·refine Ah fun _ k=>Y Aa (Y Aa (Y Aa (Y (AQ am_el23 am_cl194 (hl:=(by exact Ba hidx (by omega)))) (Y (BH 9 am_fi194_4 am_cl3) (Y (AO am_ag3) (Y Ax (Y Ad (Ac k ?_))))))));show Ev _ _ _ _;refine Ah fun _ k=>Y Aa (Y Ax (Y Ad (Ac k (hR2 _ _ (A4 [] [1,2,3] ⟨(pre ++ [s],suf),Bu hp,?_⟩ B9 AN (Ae (he:=(by congr 2;simp)) (h:=(Ae (he:=(by exact iE (Mj (by omega) (by omega)).symm))))) (.c (.c (.c .n))))))))
     intro x hx;simp only [List.mem_append,List.mem_singleton] at hx;rcases hx with hx | rfl
     ·exact hinv x hx
     ·exact ⟨by omega,by omega⟩
    omega
   refine Au (Au (Au (Bq (Y AE (Ac k (Cw (Am (Ah fun _ k=>Y Aa (Y Ax (Y Ad (Ac k (hR2 _ _ (A4 [] [1,2,3] ⟨(pre ++ [s],suf),Bu hp,?_⟩ B9 AN (Ae (he:=(by congr 2;simp)) (h:=(Ae (he:=(by exact iE (GV (by omega)).symm))))) (.c (.c (.c .n))))))))))))))))
   intro x hx;simp only [List.mem_append,List.mem_singleton] at hx;rcases hx with hx | rfl
   ·exact hinv x hx
   ·exact ⟨by omega,by omega⟩
  omega
 simp only [lC] at hpl;have hidx:=BM hp;have hms:=Gn hp;refine Aj (Ab fun _ k=>Y Aa (Y Aa (Y (A5 am_el22) (Y As (Ac k (Az (fun c63=>?_) (fun c63=>?_)))))))
 ·refine Am (Aj (Ev.block (Ab fun _ k=>Y Aa (Y Aa (Y (AQ am_el22 am_cl168 (hl:=(by exact Ba hidx (by omega)))) (Y (Bv _ am_ag168 am_cl168) (Ay (hF:=I1 s) (h:=Y Bw (Ac k (Bh (fun c64=>?_) (fun c64=>?_)))))))))))
  ·refine Ab fun _ k=>Y Ad (Ac k (Ai (hR0 _ _ (Ap ?_))));exact bF (fun h=>absurd (h.2.2.1 s hms) ‹_›)
  refine Am (Ah fun _ k=>Y Aa (Y Ax (Y Ad (Ac k (hR0 _ _ (A4 [] [0,1,2,3] ⟨(pre ++ [s],suf),Bu hp,?_⟩ B9 AN (Ae (he:=(by congr 2;simp))) (.c (.c (.c (.c .n))))))))))
  intro x hx;simp only [List.mem_append,List.mem_singleton] at hx;rcases hx with hx | rfl
  ·exact hinv x hx
  ·assumption
 omega
theorem N6 (bars:List Bar) (runs:List Rn) (h1:bars.length≤140737488355328) (h2:runs.length≤140737488355328) (hw:Ce bars):Fun Tryz.prog 7 [.sh 5 (bars.map Bar.c), .sh 10 (runs.map Rn.c)] (AI (bL (decide (Q6 bars runs∧BV bars runs))) []):=by
 refine Fun.of (nt:=13) (rs:=[.tmp 4]) Tryz.func7 rfl rfl rfl rfl rfl (Ab fun _ k=>Y Ad (Ac k (Ab fun _ k=>Y Aa (Y Aa (Ay (hF:=PZ bars runs h1 h2) (h:=AS Aa (fun c1=>?_) (fun c1=>?_)))))))
 ·refine Y Aa (Y Aa (Ay (hF:=MB bars runs h1 hw h2) (h:=Y AF (Y Ad (Ac k (Ai (Ap ?_)))))));exact dI ⟨fun h=>⟨‹_›,h⟩,fun h=>h.2⟩
 refine Au (Bq (Y AE (Y Ad (Ac k (Ai (Ap ?_))))));exact bF (fun h=>absurd h.1 ‹_›)
theorem Xi {bars:List Bar} {runs:List Rn} {axes order:List Int} {q:Bool × Int} (hok:BV bars runs) (hq:q.2=0→q.1=true→Eh runs axes=0∧Es (AR runs).toNat (Aw bars runs axes) order) (h1:q.2=0) (h2:q.1=true):GJ bars runs:=Rb hok (hq h1 h2).2
theorem OC {bars:List Bar} {runs:List Rn} {axes order:List Int} {q:Bool × Int} {r:List Int × List Int × Int} (hr:My bars runs (AR runs).toNat r) (he:r.2.2≠0) (hq:q.2=0→q.1=true→Eh runs axes=0∧Es (AR runs).toNat (Aw bars runs axes) order):r.2.2=23∧r.1.length=0∧¬ (q.2=0∧q.1=true):=by
 obtain ⟨h1,h2,h3⟩:=hr.2 he;refine ⟨h1,by rw [h2];rfl,fun h=>?_⟩;obtain ⟨h4,h5⟩:=hq h.1 h.2;exact T2 h3 h4 h5
theorem VW (hcw:Fun Tryz.prog 6 [] (AI (bL true) [])) (bars:List Bar) (runs:List Rn) (axes order:List Int) (h1:bars.length≤140737488355328) (h2:runs.length≤140737488355328) (hw:Ce bars) (hrw:Dw runs) (hax:axes.length≤140737488355328) (hor:order.length≤140737488355328) :
 Fun Tryz.prog 3 [.sh 5 (bars.map Bar.c), .sh 10 (runs.map Rn.c), .sh 1 (axes.map AD), .sh 1 (order.map AD)] (AI (bL true) []):=by
 have hsm:=N6 bars runs h1 h2 hw;refine Fun.of (nt:=153) (rs:=[.tmp 8]) Tryz.func3 rfl rfl rfl rfl rfl (Ab fun _ k=>Y Ad (Ac k (Aj (Ab fun _ k=>Ay (hF:=hcw) (h:=Y Bw (Ac k (En (fun c1=>?_) (fun c1=>?_))))))))
 ·contradiction
 refine Am (Aj (Ab fun _ k=>Y Aa (Y Aa (Ay (hF:=hsm) (h:=Y Bw (Dc Aa (fun c2=>?_) (fun c2=>?_)))))))
 ·refine Au (Bq (Y AF (Y Aa (Au (Bq (Y AF (Ac k (BI (Ab fun _ k=>Y Ad (Ac k (Ai (Ap ?_))))))))))));rfl
 refine Y Aa (Y (A5 am_el24) (Y Be (Y AE (AS Aa (fun c3=>?_) (fun c3=>?_)))))
 ·refine Au (Bq (Y AF (Ac k (BI (Ab fun _ k=>Y Ad (Ac k (Ai (Ap ?_))))))));rfl
 refine Y Aa (Y (A5 am_el24) (Y Be (Y AE (Ac k (Az (fun c4=>?_) (fun c4=>?_))))))
 ·refine Ab fun _ k=>Y Ad (Ac k (Ai (Ap ?_)));rfl
 refine Am ?_
 have hsl:Q6 bars runs∧BV bars runs:=Decidable.byContradiction fun h=>by simp_all
 obtain ⟨hst,hok⟩:=hsl;have hn:=YB hst hok
 have hal:axes.length≤70:=by omega
 have hol:order.length≤70:=by omega
 have hff:=Uf bars runs hok hw hrw hn;have hcl:=QS bars runs hok hw hrw (by omega);have hck:=Qa bars runs hok hw hrw hn axes (by omega) order (by omega);have hnn:=D4 (fun r hr=>(hok.2.2.1 r hr).2.2.1.1);refine Ab fun _ k=>Y Aa (Y Aa (Fw (hF:=hff) (h:=fun r hr=>(Y Aa (Y AH (Y AH (Y AH (Y Ad (Y Ad (Y Ad (Ac k (Ab fun _ k=>Y Aa (Y Aa (Ay (hF:=hcl) (h:=Y Aa (Y AH (Y AH (Y Ad (Y Ad (Ac k (Ab fun _ k=>Y Aa (Y Aa (Y Aa (Y Aa (Fw (hF:=hck) (h:=fun qc hq=>(Y Aa (Y AH (Y AH (Y Ad (Y Ad (Ac k (Aj (Ab fun _ k=>Y Aa (Y Bn (Dc Aa (fun c5=>?_) (fun c5=>?_)))))))))))))))))))))))))))))))))))))
 ·omega
 refine Y Aa (Y Bk (AS Aa (fun c6=>?_) (fun c6=>?_)))
 ·refine Y Aa (Y AF (HA Aa (fun c7=>?_) (fun c7=>?_)))
  ·refine Y Aa (Y Bw (Y AF (Y AE (Ac k (Bh (fun c8=>?_) (fun c8=>?_))))))
   ·refine Ab fun _ k=>Y Ad (Ac k (Ai (Ap ?_)));exact absurd (Xi hok hq (by assumption) (by assumption)) (by assumption)
   refine Am (Aj (Ab fun _ k=>Y Aa (Y Bn (Ac k (Bh (fun c9=>?_) (fun c9=>?_))))))
   ·have hlo:=OC hr (by omega) hq;refine Ab fun _ k=>Y Aa (Y Bk (AS Aa (fun c10=>?_) (fun c10=>?_)))
    ·refine Y Aa (Y (A5 am_el24) (Y Bk (Y AF (AS Aa (fun c11=>?_) (fun c11=>?_)))))
     ·refine Y Aa (Y Bn (Dc Aa (fun c12=>?_) (fun c12=>?_)))
      ·omega
      refine Y Aa (Y Bw (Y AE (Y AF (Y Ad (Ac k (Ai (Ap ?_)))))))
      exfalso;simp_all
     omega
    omega
   refine Am (Aj ?_);have hof:=hr.1 (by omega);have hcp:=JW hok hof
   have hle:r.1.length=(AR runs).toNat:=by rw [hof.1.length_eq,Ds]
   have hla:r.2.1.length=(AR runs).toNat:=hof.2.1;have he0:=M6 hnn hof;have hnd:=Ht bars runs hok hw hrw hn r.2.1 (by omega) he0 true (Lh hof);refine Ab fun _ k=>Y Aa (Y Bw (Dc Aa (fun c13=>?_) (fun c13=>?_)))
   ·contradiction
   refine Y Aa (Y (A5 am_el24) (Y Aa (Y (A5 am_el24) (Y Bn (Y AE (Ac k (Bh (fun c14=>?_) (fun c14=>?_))))))))
   ·omega
   refine Am (Aj (Ab fun _ k=>Y Aa (Y (A5 am_el24) (Y Aa (Ac k (Ev.block (AC (ι:={p:List (Int) × List (Int) // p.1 ++ p.2=r.1∧True}) [] [0,1,9,10,98,99] (fun ⟨(pre,suf),_⟩=>[(100,iL (pre.length:Int))]) (fun ⟨(pre,suf),_⟩=>[]) (fun ⟨(pre,suf),_⟩=>suf.length) ⟨([],r.1),rfl,trivial⟩ (.c (.c (.c (.c (.c (.c .n)))))) AN (Ae) ?_)))))));rintro ⟨⟨pre,suf⟩,hp,hinv⟩ R0 hR0;dsimp only [cA,nA,lC,lN]
   simp only at hp hinv
   have hpl:=BO hp
   rcases suf with _ | ⟨s,suf⟩
   ·rw [List.append_nil] at hp;simp only [lN] at hpl;refine Ab fun _ k=>Y As (Ac k (AG (fun c15=>?_) (fun c15=>?_)))
    ·omega
    refine AA (hR0 _ _ (Ab fun _ k=>Y Aa (Y Aa (Y Aa (Ay (hF:=hnd) (h:=Y Aa (Y AH (Y AH (Y Ad (Y Ad (Ac k (Ab fun _ k=>Y Aa (Y Bk (AS Aa (fun c16=>?_) (fun c16=>?_)))))))))))))))
    ·omega
    refine Y Aa (Y Bk (AS Aa (fun c17=>?_) (fun c17=>?_)))
    ·refine Y Aa (Y (A5 am_el24) (Y Bk (Y AF (Y AE (Y Ad (Ac k (Ai (Ap ?_))))))));rfl
    omega
   simp only [lC] at hpl;have hidx:=BM hp;obtain ⟨⟨hs0,hs1⟩,ax,hax1,hax2,hbl,hth⟩:=M5 hof hp
   have htk:(r.1.drop (0:Int).toNat).take ((pre.length:Int).toNat - (0:Int).toNat)=pre:=by rw [← hp];simp
   have hbk:=HG bars runs hok hw hrw (by omega) s ax hax2 pre hs0 (by omega) (by have:=hth;rwa [Int.toNat_of_nonneg hnn] at this) (by omega);rw [hbl] at hbk;rw [← htk] at hbk;refine Ab fun _ k=>Y As (Ac k (AG (fun c18=>?_) (fun c18=>?_)))
   ·refine Aj (Ev.block (Ab fun _ k=>Y Aa (Y (AQ am_el24 am_cl3 (hl:=(by exact Ba hidx (by omega)))) (Y (AO am_ag3) (Y Ad (Y Ad (Ac k (Aj (Ab fun _ k=>Y Aa (Y As (AS Aa (fun c19=>?_) (fun c19=>?_))))))))))))
    ·omega
    refine Y Aa (Y Aa (Y (A5 am_el24) (Y BR (Y AE (Ac k (Az (fun c20=>?_) (fun c20=>?_)))))))
    ·omega
    refine Am (BW (tbs [(0,0),(0,0),(0,0),(0,0),(0,0),(5,24),(6,56),(0,0),(0,0),(9,384),(10,1023),(11,2047),(12,4095),(12,4095),(13,8191),(15,32767)]) 15 fun _ k=>Ak Aa (Ak Aa (Ak Aa (Ak Aa (Ak Aa (Ak (AQ am_el24 am_cl3 (hl:=(by exact Ba hax1 (by omega)))) (Ak (AO am_ag3) (Ak Aa (Ak Aa (Ak (R7 am_el24 am_cl3) (Cc (hF:=hbk) (h:=Ak Aa (Ak AH (Ak AH (Ak Ad (B3 [] (h:=Y Ad (Ac k (Ab fun _ k=>Y Aa (Y Bn (Dc Aa (fun c21=>?_) (fun c21=>?_))))))))))))))))))))))
    ·omega
    refine Y Aa (Y (A5 am_el24) (Y Be (Y AE (Ac k (Az (fun c22=>?_) (fun c22=>?_))))))
    ·contradiction
    refine Am (Ah fun _ k=>Y Ax (Y Aa (Ac k (hR0 _ _ (A4 [] [0,1,9,10,98,99] ⟨(pre ++ [s],suf),Bu hp,trivial⟩ B9 AN (Ae (he:=(by congr 2;simp))) (.c (.c (.c (.c (.c (.c .n)))))))))));skip
   omega
  refine Au (Y AE (Y AE (Ac k (Cw (Am (Aj (Ab fun _ k=>Y Aa (Y Bn (Ac k (Bh (fun c23=>?_) (fun c23=>?_)))))))))))
  ·have hlo:=OC hr (by omega) hq;refine Ab fun _ k=>Y Aa (Y Bk (AS Aa (fun c24=>?_) (fun c24=>?_)))
   ·refine Y Aa (Y (A5 am_el24) (Y Bk (Y AF (AS Aa (fun c25=>?_) (fun c25=>?_)))))
    ·refine Y Aa (Y Bn (Dc Aa (fun c26=>?_) (fun c26=>?_)))
     ·omega
     refine Y Aa (Y Bw (Y AE (Y AF (Y Ad (Ac k (Ai (Ap ?_)))))))
     simp_all
    omega
   omega
  refine Am (Aj ?_);have hof:=hr.1 (by omega);have hcp:=JW hok hof
  have hle:r.1.length=(AR runs).toNat:=by rw [hof.1.length_eq,Ds]
  have hla:r.2.1.length=(AR runs).toNat:=hof.2.1;have he0:=M6 hnn hof;have hnd:=Ht bars runs hok hw hrw hn r.2.1 (by omega) he0 true (Lh hof);refine Ab fun _ k=>Y Aa (Y Bw (Dc Aa (fun c27=>?_) (fun c27=>?_)))
  ·contradiction
  refine Y Aa (Y (A5 am_el24) (Y Aa (Y (A5 am_el24) (Y Bn (Y AE (Ac k (Bh (fun c28=>?_) (fun c28=>?_))))))))
  ·omega
  refine Am (Aj (Ab fun _ k=>Y Aa (Y (A5 am_el24) (Y Aa (Ac k (Ev.block (AC (ι:={p:List (Int) × List (Int) // p.1 ++ p.2=r.1∧True}) [] [0,1,9,10,98,99] (fun ⟨(pre,suf),_⟩=>[(100,iL (pre.length:Int))]) (fun ⟨(pre,suf),_⟩=>[]) (fun ⟨(pre,suf),_⟩=>suf.length) ⟨([],r.1),rfl,trivial⟩ (.c (.c (.c (.c (.c (.c .n)))))) AN (Ae) ?_)))))));rintro ⟨⟨pre,suf⟩,hp,hinv⟩ R0 hR0;dsimp only [cA,nA,lC,lN]
  simp only at hp hinv
  have hpl:=BO hp
  rcases suf with _ | ⟨s,suf⟩
  ·rw [List.append_nil] at hp;simp only [lN] at hpl;refine Ab fun _ k=>Y As (Ac k (AG (fun c29=>?_) (fun c29=>?_)))
   ·omega
   refine AA (hR0 _ _ (Ab fun _ k=>Y Aa (Y Aa (Y Aa (Ay (hF:=hnd) (h:=Y Aa (Y AH (Y AH (Y Ad (Y Ad (Ac k (Ab fun _ k=>Y Aa (Y Bk (AS Aa (fun c30=>?_) (fun c30=>?_)))))))))))))))
   ·omega
   refine Y Aa (Y Bk (AS Aa (fun c31=>?_) (fun c31=>?_)))
   ·refine Y Aa (Y (A5 am_el24) (Y Bk (Y AF (Y AE (Y Ad (Ac k (Ai (Ap ?_))))))));rfl
   omega
  simp only [lC] at hpl;have hidx:=BM hp;obtain ⟨⟨hs0,hs1⟩,ax,hax1,hax2,hbl,hth⟩:=M5 hof hp
  have htk:(r.1.drop (0:Int).toNat).take ((pre.length:Int).toNat - (0:Int).toNat)=pre:=by rw [← hp];simp
  have hbk:=HG bars runs hok hw hrw (by omega) s ax hax2 pre hs0 (by omega) (by have:=hth;rwa [Int.toNat_of_nonneg hnn] at this) (by omega);rw [hbl] at hbk;rw [← htk] at hbk;refine Ab fun _ k=>Y As (Ac k (AG (fun c32=>?_) (fun c32=>?_)))
  ·refine Aj (Ev.block (Ab fun _ k=>Y Aa (Y (AQ am_el24 am_cl3 (hl:=(by exact Ba hidx (by omega)))) (Y (AO am_ag3) (Y Ad (Y Ad (Ac k (Aj (Ab fun _ k=>Y Aa (Y As (AS Aa (fun c33=>?_) (fun c33=>?_))))))))))))
   ·omega
   refine Y Aa (Y Aa (Y (A5 am_el24) (Y BR (Y AE (Ac k (Az (fun c34=>?_) (fun c34=>?_)))))))
   ·omega
   refine Am (BW (tbs [(0,0),(0,0),(0,0),(0,0),(0,0),(5,24),(6,56),(0,0),(0,0),(9,384),(10,1023),(11,2047),(12,4095),(12,4095),(13,8191),(15,32767)]) 15 fun _ k=>Ak Aa (Ak Aa (Ak Aa (Ak Aa (Ak Aa (Ak (AQ am_el24 am_cl3 (hl:=(by exact Ba hax1 (by omega)))) (Ak (AO am_ag3) (Ak Aa (Ak Aa (Ak (R7 am_el24 am_cl3) (Cc (hF:=hbk) (h:=Ak Aa (Ak AH (Ak AH (Ak Ad (B3 [] (h:=Y Ad (Ac k (Ab fun _ k=>Y Aa (Y Bn (Dc Aa (fun c35=>?_) (fun c35=>?_))))))))))))))))))))))
   ·omega
   refine Y Aa (Y (A5 am_el24) (Y Be (Y AE (Ac k (Az (fun c36=>?_) (fun c36=>?_))))))
   ·contradiction
   refine Am (Ah fun _ k=>Y Ax (Y Aa (Ac k (hR0 _ _ (A4 [] [0,1,9,10,98,99] ⟨(pre ++ [s],suf),Bu hp,trivial⟩ B9 AN (Ae (he:=(by congr 2;simp))) (.c (.c (.c (.c (.c (.c .n)))))))))));skip
  omega
 refine Bq (Y AE (Y Aa (Au (Y AE (Y AE (Ac k (Cw (Am (Aj (Ab fun _ k=>Y Aa (Y Bn (Ac k (Bh (fun c37=>?_) (fun c37=>?_))))))))))))))
 ·have hlo:=OC hr (by omega) hq;refine Ab fun _ k=>Y Aa (Y Bk (AS Aa (fun c38=>?_) (fun c38=>?_)))
  ·refine Y Aa (Y (A5 am_el24) (Y Bk (Y AF (AS Aa (fun c39=>?_) (fun c39=>?_)))))
   ·refine Y Aa (Y Bn (Dc Aa (fun c40=>?_) (fun c40=>?_)))
    ·refine Au (Y AF (Y AF (Y Ad (Ac k (Ai (Ap ?_))))));rfl
    omega
   omega
  omega
 refine Am (Aj ?_);have hof:=hr.1 (by omega);have hcp:=JW hok hof
 have hle:r.1.length=(AR runs).toNat:=by rw [hof.1.length_eq,Ds]
 have hla:r.2.1.length=(AR runs).toNat:=hof.2.1;have he0:=M6 hnn hof;have hnd:=Ht bars runs hok hw hrw hn r.2.1 (by omega) he0 true (Lh hof);refine Ab fun _ k=>Y Aa (Y Bw (Dc Aa (fun c41=>?_) (fun c41=>?_)))
 ·contradiction
 refine Y Aa (Y (A5 am_el24) (Y Aa (Y (A5 am_el24) (Y Bn (Y AE (Ac k (Bh (fun c42=>?_) (fun c42=>?_))))))))
 ·omega
 refine Am (Aj (Ab fun _ k=>Y Aa (Y (A5 am_el24) (Y Aa (Ac k (Ev.block (AC (ι:={p:List (Int) × List (Int) // p.1 ++ p.2=r.1∧True}) [] [0,1,9,10,98,99] (fun ⟨(pre,suf),_⟩=>[(100,iL (pre.length:Int))]) (fun ⟨(pre,suf),_⟩=>[]) (fun ⟨(pre,suf),_⟩=>suf.length) ⟨([],r.1),rfl,trivial⟩ (.c (.c (.c (.c (.c (.c .n)))))) AN (Ae) ?_)))))));rintro ⟨⟨pre,suf⟩,hp,hinv⟩ R0 hR0;dsimp only [cA,nA,lC,lN]
 simp only at hp hinv
 have hpl:=BO hp
 rcases suf with _ | ⟨s,suf⟩
 ·rw [List.append_nil] at hp;simp only [lN] at hpl;refine Ab fun _ k=>Y As (Ac k (AG (fun c43=>?_) (fun c43=>?_)))
  ·omega
  refine AA (hR0 _ _ (Ab fun _ k=>Y Aa (Y Aa (Y Aa (Ay (hF:=hnd) (h:=Y Aa (Y AH (Y AH (Y Ad (Y Ad (Ac k (Ab fun _ k=>Y Aa (Y Bk (AS Aa (fun c44=>?_) (fun c44=>?_)))))))))))))))
  ·omega
  refine Y Aa (Y Bk (AS Aa (fun c45=>?_) (fun c45=>?_)))
  ·refine Y Aa (Y (A5 am_el24) (Y Bk (Y AF (Y AE (Y Ad (Ac k (Ai (Ap ?_))))))));rfl
  omega
 simp only [lC] at hpl;have hidx:=BM hp;obtain ⟨⟨hs0,hs1⟩,ax,hax1,hax2,hbl,hth⟩:=M5 hof hp
 have htk:(r.1.drop (0:Int).toNat).take ((pre.length:Int).toNat - (0:Int).toNat)=pre:=by rw [← hp];simp
 have hbk:=HG bars runs hok hw hrw (by omega) s ax hax2 pre hs0 (by omega) (by have:=hth;rwa [Int.toNat_of_nonneg hnn] at this) (by omega);rw [hbl] at hbk;rw [← htk] at hbk;refine Ab fun _ k=>Y As (Ac k (AG (fun c46=>?_) (fun c46=>?_)))
 ·refine Aj (Ev.block (Ab fun _ k=>Y Aa (Y (AQ am_el24 am_cl3 (hl:=(by exact Ba hidx (by omega)))) (Y (AO am_ag3) (Y Ad (Y Ad (Ac k (Aj (Ab fun _ k=>Y Aa (Y As (AS Aa (fun c47=>?_) (fun c47=>?_))))))))))))
  ·omega
  refine Y Aa (Y Aa (Y (A5 am_el24) (Y BR (Y AE (Ac k (Az (fun c48=>?_) (fun c48=>?_)))))))
  ·omega
  refine Am (BW (tbs [(0,0),(0,0),(0,0),(0,0),(0,0),(5,24),(6,56),(0,0),(0,0),(9,384),(10,1023),(11,2047),(12,4095),(12,4095),(13,8191),(15,32767)]) 15 fun _ k=>Ak Aa (Ak Aa (Ak Aa (Ak Aa (Ak Aa (Ak (AQ am_el24 am_cl3 (hl:=(by exact Ba hax1 (by omega)))) (Ak (AO am_ag3) (Ak Aa (Ak Aa (Ak (R7 am_el24 am_cl3) (Cc (hF:=hbk) (h:=Ak Aa (Ak AH (Ak AH (Ak Ad (B3 [] (h:=Y Ad (Ac k (Ab fun _ k=>Y Aa (Y Bn (Dc Aa (fun c49=>?_) (fun c49=>?_))))))))))))))))))))))
  ·omega
  refine Y Aa (Y (A5 am_el24) (Y Be (Y AE (Ac k (Az (fun c50=>?_) (fun c50=>?_))))))
  ·contradiction
  refine Am (Ah fun _ k=>Y Ax (Y Aa (Ac k (hR0 _ _ (A4 [] [0,1,9,10,98,99] ⟨(pre ++ [s],suf),Bu hp,trivial⟩ B9 AN (Ae (he:=(by congr 2;simp))) (.c (.c (.c (.c (.c (.c .n)))))))))));skip
 omega
def akBars:List Bar:=[⟨[97],10,1,0,[1000]⟩,⟨[98],10,1,0,[400]⟩]
def akRuns:List Rn:=[⟨[97],1,2,0,0,0,0,0,0,1⟩,⟨[98],2, -1,500, -200,40,0,0,0,1⟩]
def Gx (l:List (Int × Int)):List (Int × Int) × Int:=l.foldl (fun p s=>(if s.2≠p.2 then p.1 ++ [s] else p.1,s.2)) ([],0)
theorem Ph (l:List (Int × Int)) (s:Int × Int):Gx (l ++ [s])=(if s.2≠(Gx l).2 then (Gx l).1 ++ [s] else (Gx l).1,s.2):=by unfold Gx;rw [List.foldl_append];rfl
theorem Vw {l:List (Int × Int)} {s:Int × Int} (h:s.2≠(Gx l).2):Gx (l ++ [s])=((Gx l).1 ++ [s],s.2):=by rw [Ph,if_pos h]
theorem Vv {l:List (Int × Int)} {s:Int × Int} (h:¬ s.2≠(Gx l).2):Gx (l ++ [s])=((Gx l).1,s.2):=by rw [Ph,if_neg h]
theorem shF_len:∀ l:List (Int × Int),(Gx l).1.length≤l.length:=by
 refine Ft (Nat.le_refl _) fun l s ih=>?_
 by_cases h:s.2≠(Gx l).2
 ·rw [Vw h,List.length_append,List.length_append];simp only [List.length_cons,List.length_nil];omega
 rw [Vv h,List.length_append];simp only [List.length_cons,List.length_nil];omega
theorem cageBars_fun:Fun Tryz.prog 45 [] (AI (.tup [.sh 5 (akBars.map Bar.c), .sh 10 (akRuns.map Rn.c)]) []):=by
 refine Fun.of (nt:=17) (rs:=[.tmp 0, .tmp 1]) Tryz.func45 rfl rfl rfl rfl rfl (Ab fun _ k=>Y Ad (Y Ad (Ac k (Ab fun _ k=>Aq (Bf [[_]] true am_el24 am_ze3 am_cl3) (SeqL.weaken (Wk.frzl (f:=AD) [_] 4 []) (Y (Bg _ am_ze168 am_pl168) (Aq (Bf [[_]] true am_el24 am_ze3 am_cl3) (SeqL.weaken (Wk.frzl (f:=AD) [_] 6 []) (Y (Bg _ am_ze168 am_pl168) (Aq (Bf [[_,_,_,_,_],[_,_,_,_,_]] true am_el22 am_ze168 am_cl168) (Y Ad (Ac k (Ab fun _ k=>Y (Bg _ am_ze192 am_pl192) (Y (Bg _ am_ze194 am_pl194) (Y (Bg _ am_ze192 am_pl192) (Y (Bg _ am_ze56 am_pl56) (Y (Bg _ am_ze194 am_pl194) (Aq (Bf [[_,_,_,_,_,_,_,_,_,_],[_,_,_,_,_,_,_,_,_,_]] true am_el23 am_ze194 am_cl194) (Y Ad (Ac k (Av (Wk.frzl (f:=Bar.c) akBars 2 [_]) (Av (Wk.frzl (f:=Rn.c) akRuns 3 []) (Ab fun _ k=>Y Aa (Y Aa (Y Ad (Y Ad (Ac k (Ai (Cd ?_)))))))))))))))))))))))))))));rfl
theorem J3 (a b:List Int) (ha:a.length≤140737488355328) (hb:b.length≤140737488355328):Fun Tryz.prog 51 [.sh 1 (a.map AD), .sh 1 (b.map AD)] (AI (bL (decide (a=b))) []):=by
 refine Fun.of (nt:=26) (rs:=[.tmp 4]) Tryz.func51 rfl rfl rfl rfl rfl (Ab fun _ k=>Y Ad (Ac k (Aj (Ab fun _ k=>Y Aa (Y (A5 am_el24) (Y Aa (Y (A5 am_el24) (Y Bn (Ac k (Bh (fun c1=>?_) (fun c1=>?_)))))))))))
 ·refine Ab fun _ k=>Y Ad (Ac k (Ai (Ap ?_)));exact bF (fun h=>by subst h;omega)
 refine Am (Aj (Ab fun _ k=>Y Aa (Y (A5 am_el24) (Y Aa (Ac k (Ev.block (AC (ι:={q:List Int × List Int // q.1 ++ q.2=a∧b.take q.1.length=q.1}) [] [0,1,12] (fun ⟨(pre,suf),_⟩=>[(13,iL (pre.length:Int))]) (fun ⟨(pre,suf),_⟩=>[]) (fun ⟨(pre,suf),_⟩=>suf.length) ⟨([],a),rfl,rfl⟩ (.c (.c (.c .n))) AN (Ae) ?_)))))));rintro ⟨⟨pre,suf⟩,hp,hinv⟩ R0 hR0;dsimp only [cA,nA,lC,lN]
 simp only at hp hinv
 have hpl:=BO hp
 rcases suf with _ | ⟨s,suf⟩
 ·rw [List.append_nil] at hp;simp only [lN] at hpl;subst pre;refine Ab fun _ k=>Y As (Ac k (AG (fun c2=>?_) (fun c2=>?_)))
  ·omega
  refine AA (hR0 _ _ (Ab fun _ k=>Y Ad (Ac k (Ai (Ap ?_)))));exact bT (hinv.symm.trans (List.take_of_length_le (by omega)))
 simp only [lC] at hpl;have hidx:=BM hp;obtain ⟨s2,hidx2⟩:∃ s2,b[pre.length]?= some s2:=⟨_,List.getElem?_eq_getElem (by omega)⟩;refine Ab fun _ k=>Y As (Ac k (AG (fun c3=>?_) (fun c3=>?_)))
 ·refine Aj (Ev.block (Ab fun _ k=>Y Aa (Y Ad (Ac k (BW (tbs [(0,0),(0,0),(2,3),(3,7),(0,0),(0,0),(6,48),(7,112),(8,255)]) 9 fun _ k=>Ak Aa (Ak Aa (Ak (AQ am_el24 am_cl3 (hl:=(by exact Ba hidx (by omega)))) (Ak (AO am_ag3) (Ak Aa (Ak Aa (Ak (AQ am_el24 am_cl3 (hl:=(by exact Ba hidx2 (by omega)))) (Ak (AO am_ag3) (Ak Bn (B3 [] (h:=Ac k (Bh (fun c4=>?_) (fun c4=>?_)))))))))))))))))
  ·refine Ab fun _ k=>Y Ad (Ac k (Ai (hR0 _ _ (Ap ?_))));exact bF (fun h=>by subst h;rw [hidx] at hidx2;cases hidx2;simp at *)
  refine Am (Ah fun _ k=>Y Ax (Y Aa (Ac k (hR0 _ _ (A4 [] [0,1,12] ⟨(pre ++ [s],suf),Bu hp,by dsimp only;rw [List.length_append,List.length_singleton,List.take_add_one,hinv,hidx2,show s=s2 by omega];rfl⟩ B9 AN (Ae (he:=(by congr 2;simp))) (.c (.c (.c .n))))))));skip
 omega
theorem RQ (l:List (Int × Int)) (hl:l.length≤1000):Fun Tryz.prog 148 [.sh 2 (l.map pairC)] (AI (.sh 2 ((Gx l).1.map pairC)) []):=by
 refine Fun.of (nt:=25) (rs:=[.tmp 2]) Tryz.func148 rfl rfl rfl rfl rfl (Ab fun _ k=>Y Ad (Ac k (Ab fun _ k=>Y Ad (Ac k (Ab fun _ k=>Y Ad (Ac k (Aj (Ab fun _ k=>Y Aa (Y (A5 am_el59) (Y Aa (Ac k (Ev.block (Av (Wk.nown pairC 3 205 2) (AC (ι:={p:List (Int × Int) × List (Int × Int) // p.1 ++ p.2=l∧True}) [0] [7,8] (fun ⟨(pre,suf),_⟩=>[(9,iL (pre.length:Int)),(4,iL ((Gx pre).2)),(3, .als 0 0 ((Gx pre).1).length)]) (fun ⟨(pre,suf),_⟩=>[(0,⟨true,205,2,((Gx pre).1).map pairC,true⟩)]) (fun ⟨(pre,suf),_⟩=>suf.length) ⟨([],l),rfl,trivial⟩ (.c (.c .n)) (Ag) (Ae (h:=(Ae (h:=(Ae))))) ?_))))))))))))));rintro ⟨⟨pre,suf⟩,hp,hinv⟩ R0 hR0;dsimp only [cA,nA,lC,lN]
 simp only at hp hinv
 have hpl:=BO hp
 rcases suf with _ | ⟨s,suf⟩
 ·rw [List.append_nil] at hp;simp only [lN] at hpl;subst pre;refine Ab fun _ k=>Y As (Ac k (AG (fun c1=>?_) (fun c1=>?_)))
  ·omega
  refine AA (hR0 _ _ (Ab fun _ k=>Y Aa (Y Ad (Ac k (Av (Wk.frz 2 []) (Ai (Ap ?_)))))));rfl
 simp only [lC] at hpl;have hidx:=BM hp;obtain ⟨s1,s2⟩:=s;have hsl:=shF_len pre;have ht:=Vw (l:=pre) (s:=(s1,s2));have hf:=Vv (l:=pre) (s:=(s1,s2));refine Ab fun _ k=>Y As (Ac k (AG (fun c2=>?_) (fun c2=>?_)))
 ·refine Aj (Ev.block (Ab fun _ k=>Y (AQ am_el59 am_cl205 (hl:=(by exact Ba hidx (by omega)))) (Y (Bv _ am_ag205 am_cl205) (Aq (AT am_ze205) (Ar _ true [_] am_in205 am_cl205 (h:=Ac k (Aj (Ab fun _ k=>Y (An 1 am_fi205_1 am_cl3) (Y (Ao am_ag3) (Y Aa (Y Bn (Ac k (Bh (fun c3=>?_) (fun c3=>?_))))))))))))))
  ·refine Ah fun _ k=>Y Aa (Y (A6 _ am_ag205 am_cl205) (Aq (Bf [[_,_]] true am_el59 am_ze205 am_cl205) (AW [_,_] am_el59 am_ze205 am_cl205 am_by205 (hh:=A3) (hr:=(A7 [(s1,s2)])) (h:=Y Ad (Ac k ?_)))));show Ev _ _ _ _;refine Ah fun _ k=>Y (An 1 am_fi205_1 am_cl3) (Y (Ao am_ag3) (Y Ad (Ac k ?_)));show Ev _ _ _ _;refine Ah fun _ k=>Y Ax (Y Aa (Ac k (hR0 _ _ (A4 [3] [7,8] ⟨(pre ++ [(s1,s2)],suf),Bu hp,trivial⟩ B9 (Ag (he:=(by rw [ht ‹_›,List.map_append] <;> rfl))) (Ae (he:=(by congr 2;simp)) (h:=(Ae (he:=(by rw [ht ‹_›])) (h:=(Ae (he:=(by rw [ht ‹_›,List.length_append] <;> rfl))))))) (.c (.c .n))))));skip
  refine Am (Ah fun _ k=>Y (An 1 am_fi205_1 am_cl3) (Y (Ao am_ag3) (Y Ad (Ac k ?_))));show Ev _ _ _ _;refine Ah fun _ k=>Y Ax (Y Aa (Ac k (hR0 _ _ (A4 [0] [7,8] ⟨(pre ++ [(s1,s2)],suf),Bu hp,trivial⟩ B9 (Ag (he:=(by rw [hf (fun h=>h ‹_›)]))) (Ae (he:=(by congr 2;simp)) (h:=(Ae (he:=(by rw [hf (fun h=>h ‹_›)])) (h:=(Ae (he:=(by rw [hf (fun h=>h ‹_›)]))))))) (.c (.c .n))))));skip
 omega
theorem pulse_fun:Fun Tryz.prog 48 [iL 1,iL 2,iL 3] (AI (.tup [.sh 2 (([(1,3),(2,0)]:List (Int × Int)).map pairC),iL 0]) []):=by
 have hsf:=RQ [(1,3),(2,0)] (by decide);rw [show (Gx [(1,3),(2,0)]).1=[(1,3),(2,0)] by decide] at hsf;have hp1:=No 1;rw [decide_eq_true (show Jd 1 by decide)] at hp1;have hp2:=No 2;rw [decide_eq_true (show Jd 2 by decide)] at hp2;refine Fun.of (nt:=36) (rs:=[.tmp 6, .tmp 7]) Tryz.func48 rfl rfl rfl rfl rfl (Ab fun _ k=>Y Ad (Y Ad (Ac k (Aj (Ab fun _ k=>Y Aa (Ay (hF:=hp1) (h:=Y Bw (HA Aa (fun c1=>?_) (fun c1=>?_)))))))))
 ·contradiction
 refine Y Aa (Ay (hF:=hp2) (h:=Y Bw (Y AE (HA Aa (fun c2=>?_) (fun c2=>?_)))))
 ·contradiction
 refine Y Aa (Y Aa (Y BR (Y AE (AS Aa (fun c3=>?_) (fun c3=>?_)))))
 ·omega
 refine Y Aa (Y As (Y AE (AS Aa (fun c4=>?_) (fun c4=>?_))))
 ·omega
 refine Y Aa (Y Be (Y AE (Ac k (Az (fun c5=>?_) (fun c5=>?_)))))
 ·omega
 refine Am (Ab fun _ k=>Y Aa (Y Aa (Y (Bg _ am_ze205 am_pl205) (Y Aa (Y (Bg _ am_ze205 am_pl205) (Aq (Bf [[_,_],[_,_]] true am_el59 am_ze205 am_cl205) (SeqL.weaken (Wk.frzl (f:=pairC) [(1,3),(2,0)] 34 []) (Ay (hF:=hsf) (h:=Y Ad (Y Ad (Ac k (Ai (Cd ?_)))))))))))));rfl
theorem ak_ok:BV akBars akRuns:=by decide
theorem ak_w:Ce akBars:=by
 intro b hb;simp only [akBars,List.mem_cons,List.not_mem_nil,or_false] at hb
 rcases hb with rfl | rfl <;> exact ⟨by decide,by decide⟩
theorem ak_rw:Dw akRuns:=by
 intro r hr;simp only [akRuns,List.mem_cons,List.not_mem_nil,or_false] at hr
 rcases hr with rfl | rfl <;> decide
theorem ak_n:AR akRuns=2:=by decide
theorem ak_e1:Aw akBars akRuns [3,3]=[(1,0)]:=by decide
theorem ak_e2:Aw akBars akRuns [-3,3]=[(0,1),(1,0)]:=by decide
theorem ak_sq:FF (BS akBars akRuns 0).1 (BS akBars akRuns 1).1=1600:=by decide
theorem ak_tot:RV akBars=864∧Mc akBars=0:=by decide
theorem T8 {l:List Int} (h:l.length=2):∃ a b,l=[a,b]:=by
 rcases l with _ | ⟨a,_ | ⟨b,_ | ⟨c,l⟩⟩⟩
 ·cases h
 ·cases h
 ·exact ⟨a,b,rfl⟩
 simp at h
theorem WN {r:List Int × Bool} (h:Ck 2 [(1,0)] r):r=([1,0],true):=by
 obtain ⟨l,b⟩:=r
 cases b with
 |false =>
  obtain ⟨_,U,hU,hs⟩:=h.2 rfl;obtain ⟨u,hu⟩:=List.exists_mem_of_ne_nil U hU;obtain ⟨_,e,he,_,h1⟩:=hs u hu;rw [List.mem_singleton] at he;subst he;obtain ⟨_,e,he,h2,_⟩:=hs 1 h1;rw [List.mem_singleton] at he;subst he;exact absurd h2 (by decide)
 |true =>
  obtain ⟨⟨hd,hr,ho⟩,hl⟩:=h.1 rfl;obtain ⟨a,b,rfl⟩:=T8 hl;have ha:=hr a (by simp);have hb:=hr b (by simp)
  have hab:a≠b:=by
   intro e;subst e
   simp at hd
  have h0:a≠0:=fun e=>by
   subst e;have:=ho [] 0 [b] rfl (1,0) (by simp) rfl
   cases this
  have h1:a=1:=by omega
  have h2:b=0:=by omega
  subst h1 h2;rfl
theorem ak_need:NS 2 [(0,1),(1,0)] false:=by
 refine ⟨fun h=>Bool.noConfusion h,fun _=>⟨fun r hr=>?_,by decide,fun r hr=>?_⟩⟩
 ·have e1:(Bt 2 []).length=2:=by decide
  have e2:CJ (Bt 2 []) [(0,1),(1,0)]=[(0,1),(1,0)]:=by decide
  rw [e1,e2] at hr
  cases hb:r.2 with
  |false=>rfl
  |true =>
   exfalso
   obtain ⟨⟨hd,hrg,ho⟩,hl⟩:=hr.1 hb;obtain ⟨a,b,hab⟩:=T8 hl;have ha:=hrg a (by rw [hab];simp)
   rcases (show a=0∨a=1 by omega) with rfl | rfl
   ·have:=ho [] 0 [b] hab (1,0) (by simp) rfl
    cases this
   have:=ho [] 1 [b] hab (0,1) (by simp) rfl
   cases this
 have e2:CJ (Bt 2 [0]) [(0,1),(1,0)]=[]:=by decide
 rw [e2] at hr
 cases hb:r.2 with
 |true=>rfl
 |false =>
  exfalso
  obtain ⟨_,U,hU,hs⟩:=hr.2 hb;obtain ⟨u,hu⟩:=List.exists_mem_of_ne_nil U hU;obtain ⟨_,e,he,_⟩:=hs u hu
  cases he
def Kk (n:Int):List AV:=[.lit (.int .u8 n)]
def Dz (l:List Int):Prop:=∀ x ∈ l,0≤x∧x≤255
instance (l):Decidable (Dz l):=by unfold Dz;infer_instance
theorem QM {l:List Int} {x:Int} (h:Dz l):Dz (l ++ [x % 256]):=by
 intro y hy
 rcases List.mem_append.1 hy with hy | hy
 ·exact h y hy
 rw [List.mem_singleton] at hy;subst hy;omega
theorem Kz (l:List Int) (n size:Int) (hl:l.length≤1000) (hb:Dz l) (hs:0≤size∧size≤8):FunR Tryz.prog 152 [.als 0 0 l.length,iL n,iL size] [(0,⟨true,5,1,l.map Kk,true⟩)] 1
 (fun v ls=>∃ l2:List Int,((l2.length:Int)=l.length+size∧Dz l2)∧v= .als 1 0 l2.length∧ls=[(1,⟨true,5,1,l2.map Kk,true⟩)]):=by
 refine FunR.of (nt:=23) (rs:=[.tmp 6]) Tryz.func152 rfl rfl rfl rfl rfl (Ab fun _ z=>Y Ad (Ac z (Aj (Av (Wk.cut 0 [] am_ze5 am_cl5) (Ab fun _ z=>Y Aa (Y BK (Y Ad (Ac z (Ev.block (TI (ι:={q:List Int × Nat // (q.1.length:Int)+q.2=l.length+size∧Dz q.1∧(q.2:Int)≤8}) [0,1] [1] (fun ⟨(cur,k),_⟩=>[(7,iL ((k:Int) - 1)),(0, .als 1 0 (cur).length)]) (fun ⟨(cur,k),_⟩=>[(1,⟨true,5,1,(cur).map Kk,true⟩)]) (fun ⟨(cur,k),_⟩=>k) ⟨(l,size.toNat),by dsimp only;omega,hb,by dsimp only;omega⟩ (.c .n) (Xg (h:=(Xf (he:=(by simp)) (h:=Xh)))) (Ae (he:=(by congr 2;omega)) (h:=(Ae (he:=(by simp)) (h:=trivial)))) ?_))))))))));rintro ⟨⟨cur,k⟩,hck,hcb,hk8⟩ R0 hR0;dsimp only [cA,nA,lC,lN]
 dsimp only at hck hcb hk8
 by_cases hk0:0 < k
 rotate_left
 ·skip;refine Aj (Ab fun _ z=>Y Aa (Y BR (Ac z (Az (fun c1=>?_) (fun c1=>?_)))))
  ·omega
  refine AA (hR0 _ _ (Ab fun _ z=>Y Aa (Y Ad (Ac z (Ai (D9 [0,1] (IP (h:=(B5 (h:=BZ)))) (GM rfl) ?_))))));skip;exact ⟨cur,⟨by omega,hcb⟩,rfl,rfl⟩
 skip;refine Aj (Ab fun _ z=>Y Aa (Y BR (Ac z (Az (fun c2=>?_) (fun c2=>?_)))))
 ·refine Am (Aj (Ev.block (Ah fun _ z=>Y Aa (Y Aa (Y Aa (Y BC (Y Xt (Y (Tg am_un5 am_us3) (Aq (Bf [[_]] true am_el107 am_ze5 am_cl5) (AW [_] am_el107 am_ze5 am_cl5 am_by5 (hh:=A3) (hr:=(A7 [_])) (h:=Y Ad (Ac z ?_))))))))))));show Ev _ _ _ _;refine Ah fun _ z=>Y Aa (Y BK (Y Ad (Ac z (hR0 _ _ (Xv [0,3] [1] ⟨(cur ++ [_],k - 1),by dsimp only;rw [List.length_append];simp only [List.length_cons,List.length_nil];omega,QM hcb,by dsimp only;omega⟩ ?_ (Xg (h:=(Xf (he:=(by rfl)) (h:=Xh)))) (Ae (he:=(by congr 2;omega)) (h:=(Ae (he:=(by rfl)) (h:=trivial)))) (.c .n))))));skip;all_goals (dsimp only;omega)
 omega
def Jj (s0:Int) (l:List Int):Int:=l.foldl (fun s x=>(31 * s+x+1) % 4294967296) s0
theorem MX (s0:Int) (l:List Int) (x:Int):Jj s0 (l ++ [x])=(31 * Jj s0 l+x+1) % 4294967296:=by unfold Jj;rw [List.foldl_append];rfl
theorem VQ {s0:Int} (h:0≤s0∧s0 < 4294967296):∀ l:List Int,0≤Jj s0 l∧Jj s0 l < 4294967296:=by
 refine Ft h fun l x _=>?_;rw [MX];omega
theorem PL (l:List Int) (s0:Int) (hs0:0≤s0∧s0 < 4294967296) (hl:l.length≤1000) (hb:Dz l):Fun Tryz.prog 266 [iL s0, .sh 1 (l.map Kk)] (AI (iL (Jj s0 l)) []):=by
 refine Fun.of (nt:=22) (rs:=[.tmp 4]) Tryz.func266 rfl rfl rfl rfl rfl (Ab fun _ k=>Y Ad (Ac k (Aj (Ab fun _ k=>Y Aa (Y (A5 am_el107) (Y Aa (Ac k (Ev.block (AC (ι:={p:List (Int) × List (Int) // p.1 ++ p.2=l∧True}) [] [7,8] (fun ⟨(pre,suf),_⟩=>[(9,iL (pre.length:Int)),(0,iL (Jj s0 pre))]) (fun ⟨(pre,suf),_⟩=>[]) (fun ⟨(pre,suf),_⟩=>suf.length) ⟨([],l),rfl,trivial⟩ (.c (.c .n)) AN (Ae (h:=(Ae))) ?_)))))))));rintro ⟨⟨pre,suf⟩,hp,hinv⟩ R0 hR0;dsimp only [cA,nA,lC,lN]
 simp only at hp hinv
 have hpl:=BO hp
 rcases suf with _ | ⟨s,suf⟩
 ·rw [List.append_nil] at hp;simp only [lN] at hpl;subst pre;refine Ab fun _ k=>Y As (Ac k (AG (fun c1=>?_) (fun c1=>?_)))
  ·omega
  refine AA (hR0 _ _ (Ab fun _ k=>Y Aa (Y Ad (Ac k (Ai (Ap ?_))))));rfl
 simp only [lC] at hpl;have hidx:=BM hp;have hxb:=hb s (by rw [← hp];simp);have hfb:=VQ hs0 pre;refine Ab fun _ k=>Y As (Ac k (AG (fun c2=>?_) (fun c2=>?_)))
 ·refine Aj (Ev.block (Ab fun _ k=>Y (AQ am_el107 am_cl5 (hl:=(by exact Ba hidx (by omega)))) (Y (AO am_ag5) (Y Ad (Ac k (Ah fun _ k=>Y Aa (Y BC (Y Aa (Y (NU am_un3 am_us5) (Y Ax (Y Ax (Y Yq (Y Ad (Ac k ?_))))))))))))));show Ev _ _ _ _;refine Ah fun _ k=>Y Ax (Y Aa (Ac k (hR0 _ _ (A4 [] [7,8] ⟨(pre ++ [s],suf),Bu hp,trivial⟩ B9 AN (Ae (he:=(by congr 2;simp)) (h:=(Ae (he:=(by rw [MX]))))) (.c (.c .n))))));skip
 omega
theorem Ul (l:List Int) (hl:l.length≤1000) (hb:Dz l):Fun Tryz.prog 153 [.sh 1 (l.map Kk)] (AI (iL (Jj 7 l)) []):=by
 refine Fun.of (nt:=5) (rs:=[.tmp 2]) Tryz.func153 rfl rfl rfl rfl rfl (Ab fun _ k=>Y Ad (Ac k (Ab fun _ k=>Y Aa (Ay (hF:=PL l 7 (by decide) hl hb) (h:=Y Ad (Ac k (Ai (Ap ?_))))))));rfl
def MJ (l:List (Int × Int)):List AV:=[.sh 2 (l.map pairC)]
theorem Re (g:FuncId):Fun Tryz.prog 370 [.sh 1 (([]:List (List (Int × Int))).map MJ), .fn (.func g) [] []] (AI (iL (-1)) []):=by
 refine Fun.of (nt:=19) (rs:=[.tmp 4]) Tryz.func370 rfl rfl rfl rfl rfl (Ab fun _ k=>Y Ad (Ac k (Aj (Ab fun _ k=>Y Aa (Y (A5 am_el110) (Y Aa (Ac k (Ev.block (AC (ι:=Unit) [] [0,1,7] (fun _=>[(8,iL (0))]) (fun _=>[]) (fun _=>0) () (.c (.c (.c .n))) AN (Ae) ?_)))))))));rintro _u R0 hR0;dsimp only [cA,nA,lC,lN];skip;skip;refine Ab fun _ k=>Y As (Ac k (AG (fun c1=>?_) (fun c1=>?_)))
 ·omega
 refine AA (hR0 _ _ (Ab fun _ k=>Y Ad (Ac k (Ai (Ap ?_)))));rfl
theorem QU (g:FuncId):Fun Tryz.prog 263 [.sh 1 (([]:List (List (Int × Int))).map MJ), .fn (.func g) [] []] (AI (bL (decide ((-1:Int) ≥ 0))) []):=by
 refine Fun.of (nt:=9) (rs:=[.tmp 4]) Tryz.func263 rfl rfl rfl rfl rfl (Ab fun _ k=>Y Ad (Ac k (Ab fun _ k=>Y Aa (Y Aa (Ay (hF:=Re g) (h:=Y BR (Y Ad (Ac k (Ai (Ap ?_))))))))));rfl
theorem none_fun:Fun Tryz.prog 265 [.agg [.sh 1 (([]:List (List (Int × Int))).map MJ),iL (-1),iL (-1),iL (-1)]] (AI (bL true) []):=by
 refine Fun.of (nt:=16) (rs:=[.tmp 2]) Tryz.func265 rfl rfl rfl rfl rfl (Ab fun _ k=>Aq (Bo _ true) (Y Ad (Ac k (Ab fun _ k=>Y (An 1 am_fi112_1 am_cl3) (Y (Ao am_ag3) (Y Bk (AS Aa (fun c1=>?_) (fun c1=>?_))))))))
 ·refine Y (An 2 am_fi112_2 am_cl3) (Y (Ao am_ag3) (Y Bk (Y AF (AS Aa (fun c2=>?_) (fun c2=>?_)))))
  ·refine Y (An 3 am_fi112_3 am_cl3) (Y (Ao am_ag3) (Y Bk (Y AF (Y Ad (Ac k (Ai (Ap ?_)))))));rfl
  omega
 omega
theorem formed_fun:Fun Tryz.prog 151 [.agg [.sh 1 (([]:List (List (Int × Int))).map MJ),iL (-1),iL (-1),iL (-1)]] (AI (bL true) []):=by
 refine Fun.of (nt:=41) (rs:=[.tmp 2]) Tryz.func151 rfl rfl rfl rfl rfl (Ab fun _ k=>Aq (Bo _ true) (Y Ad (Ac k (Aj (Av (Wk.frzv 1 []) (Ab fun _ k=>Y (BH 0 am_fi112_0 am_cl110) (Y (AO am_ag110) (Y (A5 am_el110) (Y Be (AS Aa (fun c1=>?_) (fun c1=>?_)))))))))))
 ·contradiction
 refine Y (BH 0 am_fi112_0 am_cl110) (Y (AO am_ag110) (Ay (hF:=QU _) (h:=Y AE (Ac k (Az (fun c2=>?_) (fun c2=>?_))))))
 ·omega
 refine Am (Ab fun _ k=>Y (Bv _ am_ag112 am_cl112) (Ay (hF:=none_fun) (h:=HA Aa (fun c3=>?_) (fun c3=>?_))))
 ·refine Au (Au (Au (Au (Au (Au (Au (Au (Au (Au (Au (Au (Bq (Y AF (Y Ad (Ac k (Ai (Ap ?_)))))))))))))))));rfl
 contradiction
theorem encode_fun:Fun Tryz.prog 50 [.agg [.sh 1 (([]:List (List (Int × Int))).map MJ),iL (-1),iL (-1),iL (-1)]] (fun v ls=>∃ b:List Int,b.length=19∧v= .tup [.sh 1 (b.map Kk),iL 0]∧ls=[]):=by
 have hb0:Dz [67,83,0 % 256]:=by decide
 have hL0:([67,83,0 % 256]:List Int).length=3:=rfl;refine Fun.of (nt:=59) (rs:=[.tmp 2, .tmp 3]) Tryz.func50 rfl rfl rfl rfl rfl (Ab fun _ k=>Aq (Bo _ true) (Y Ad (Y Ad (Ac k (Aj (Av (Wk.frzv 1 []) (Ab fun _ k=>Y (Bv _ am_ag112 am_cl112) (Ay (hF:=formed_fun) (h:=Y Bw (Ac k (En (fun c1=>?_) (fun c1=>?_))))))))))))
 ·contradiction
 refine Am (Ab fun _ k=>Y (BH 0 am_fi112_0 am_cl110) (Y (AO am_ag110) (Y (A5 am_el110) (Y (Tg am_un5 am_us3) (Aq (Bf [[_],[_],[_]] true am_el107 am_ze5 am_cl5) (Y Ad (Ac k (Aj (Ab fun _ k=>Y (BH 0 am_fi112_0 am_cl110) (Y (AO am_ag110) (Y (A5 am_el110) (Y Aa (Ac k (Ev.block (AC (ι:=Unit) [1] [1,18,19] (fun _=>[(20,iL (0)),(4, .als 0 0 ([67,83,0 % 256]).length)]) (fun _=>[(0,⟨true,5,1,([67,83,0 % 256]).map Kk,true⟩)]) (fun _=>0) () (.c (.c (.c .n))) (Ag) (Ae (h:=(Ae))) ?_)))))))))))))));rintro _u R0 hR0;dsimp only [cA,nA,lC,lN];skip;skip;refine Ab fun _ k=>Y As (Ac k (AG (fun c2=>?_) (fun c2=>?_)))
 ·omega
 refine AA (hR0 _ _ (J8 (m:=11) (L0:= #[false,false,false,false,false,false,false,false,false,false,false]) rfl (by kernel_rfl) (by exact rfl) fun _ k=>(CL (i:=0) rfl (h:=(Ig (i:=1) am_fi112_1 (by rw [am_cl3];decide) rfl (h:=(EZ (i:=2) am_ag3 rfl (h:=(Ig (i:=4) am_fi112_2 (by rw [am_cl3];decide) rfl (h:=(EZ (i:=5) am_ag3 rfl (h:=(Ig (i:=7) am_fi112_3 (by rw [am_cl3];decide) rfl (h:=(EZ (i:=8) am_ag3 rfl (h:=(.done (HT.one (i:=3) trivial rfl (GH (ι:=List Int) (Φ:=(fun l2=>(l2.length:Int)=([67,83,0 % 256]).length+2∧Dz l2)) (vf:=(fun l2=> .als 1 0 l2.length)) (lf:=(fun l2=>[(1,⟨true,5,1,l2.map Kk,true⟩)])) [0] 2 (hob:=(Ag)) (hF:=Kz [67,83,0 % 256] (-1) 2 (by decide) hb0 (by decide)) (hn':=fun _=>B7 rfl rfl) (h:=fun b1 hb1=>Af (HT.one (i:=6) trivial rfl (GH (ι:=List Int) (Φ:=(fun l2=>(l2.length:Int)=(b1).length+2∧Dz l2)) (vf:=(fun l2=> .als 1 0 l2.length)) (lf:=(fun l2=>[(1,⟨true,5,1,l2.map Kk,true⟩)])) [1] 3 (hob:=(Ag)) (hF:=Kz b1 (-1) 2 (by omega) hb1.2 (by decide)) (hn':=fun _=>B7 rfl rfl) (h:=fun b2 hb2=>Af (HT.one (i:=9) trivial rfl (GH (ι:=List Int) (Φ:=(fun l2=>(l2.length:Int)=(b2).length+8∧Dz l2)) (vf:=(fun l2=> .als 1 0 l2.length)) (lf:=(fun l2=>[(1,⟨true,5,1,l2.map Kk,true⟩)])) [2] 4 (hob:=(Ag)) (hF:=Kz b2 (-1) 8 (by omega) hb2.2 (by decide)) (hn':=fun _=>B7 rfl rfl) (h:=fun b3 hb3=>Af (HT.one (i:=10) trivial rfl (Y Ad (Af (Bc trivial (by kernel_rfl) (k _ (Ab fun _ k=>Y Aa (Y Aa (Ay (hF:=Ul b3 (by omega) hb3.2) (hv:=(by simp [C7,BA,St.ev,St.get,A8])) (h:=GH (ι:=List Int) (Φ:=(fun l2=>(l2.length:Int)=(b3).length+4∧Dz l2)) (vf:=(fun l2=> .als 1 0 l2.length)) (lf:=(fun l2=>[(1,⟨true,5,1,l2.map Kk,true⟩)])) [3] 5 (hob:=(Ag)) (hF:=Kz b3 (Jj 7 b3) 4 (by omega) hb3.2 (by decide)) (hn':=fun _=>B7 rfl rfl) (h:=fun b4 hb4=>(Y Ad (Y Ad (Ac k (Av (Wk.frz 2 []) (Ai (Cx ?_))))))))))))))))))))))))))))))))))))))))))
 skip;exact ⟨b4,by omega,rfl,rfl⟩
theorem KC (c:UInt8):∀ l,(Go.Lib.indexByte l c= -1∧c ∉ l)∨∃ m:Nat,Go.Lib.indexByte l c=m∧m < l.length∧l=l.take m ++ c :: l.drop (m+1)∧c ∉ l.take m∧l[m]?= some c
 |[]=> .inl ⟨rfl,by simp⟩
 |b :: l=>by
  rw [Go.Lib.indexByte]
  by_cases h:b=c
  ·subst h;exact .inr ⟨0,by simp,by simp,by simp,by simp,rfl⟩
  ·rw [if_neg (by simpa using h)]
   rcases KC c l with ⟨h1,h2⟩ | ⟨m,h1,h2,h3,h4,h5⟩
   ·exact .inl ⟨by simp [h1],by simp [h2,Ne.symm h]⟩
   ·refine .inr ⟨m+1,?_,by simp [h2],?_,by simp [h4,Ne.symm h],by simpa using h5⟩
    ·rw [h1,if_neg (by simp <;> omega)];omega
    ·rw [List.take_succ_cons,List.cons_append,List.drop_succ_cons, ← h3]
def HK (c:UInt8) (l:List UInt8):List UInt8 × List UInt8 × Bool:=if Go.Lib.indexByte l c < 0 then (l,[],false) else (l.take (Go.Lib.indexByte l c).toNat,l.drop ((Go.Lib.indexByte l c).toNat+1),true)
open Go.Shelf in
shelf_lay Lays.n219 Nm 219 at Tryz as lays219
theorem TZ (l:List UInt8) (c:UInt8) (hl:l.length≤1000000000):Fun Tryz.prog 423 [sL l,sL [c]] (AI (.tup [sL (HK c l).1,sL (HK c l).2.1,bL (HK c l).2.2]) []):=by
 have hc1:(([c]:List UInt8).length:Int)=1:=rfl;have hge:=Go.Lib.indexByte_ge l c
 have hlt:Go.Lib.indexByte l c < l.length:=by
  rcases KC c l with ⟨h1,_⟩ | ⟨m,h1,h2,_⟩ <;> omega
 unfold HK
 refine Fun.of (nt:=23) (rs:=[.tmp 4, .tmp 5, .tmp 6]) Tryz.func423 rfl rfl rfl rfl rfl (Ab fun _ k=>Y Ad (Y Ad (Y Ad (Ac k (Aj (Ab fun _ k=>Y Aa (Y Aa (Ay (hF:=OA lays219 ⟨_,Tryz.func349,rfl,rfl⟩ l c) (h:=Y Ad (Ac k (Ab fun _ k=>Y Aa (Y BR (Ac k (Az (fun c1=>?_) (fun c1=>?_)))))))))))))))
 ·refine Av (Wk.forget [4,5]) ?_;rw [if_neg (show ¬ Go.Lib.indexByte l c < 0 by omega)];refine BW (tbs [(0,0),(0,0),(2,3),(0,0),(0,0),(0,0),(6,32),(7,112),(8,248),(3,7),(10,1023),(11,2047)]) 10 fun _ k=>Ak Aa (Ak Aa (Ak (Pa am_el9 am_un9) (Ak Aa (Ak Aa (Ak Aa (Ak (CB am_el9 am_un9) (Ak Ax (Ak (GR am_el9 am_un9) (Ak Ad (B3 [] (h:=Y Ad (Y Ad (Ac k (Ai (IG (⟨?_,rfl⟩))))))))))))))));simp only [hc1];rw [show (Go.Lib.indexByte l c+1).toNat=(Go.Lib.indexByte l c).toNat+1 by omega]
 refine Am ?_;rw [if_pos (show Go.Lib.indexByte l c < 0 by omega)];refine Ab fun _ k=>Y Aa (Y Ad (Y Ad (Y Ad (Ac k (Ai (IG (⟨?_,rfl⟩)))))));rfl
theorem RS (l:List UInt8) (c:UInt8) (hl:l.length≤1000000000):Fun Tryz.prog 351 [sL l,sL [c]] (AI (.tup [sL (HK c l).1,sL (HK c l).2.1,bL (HK c l).2.2]) []):=by
 refine Fun.of (nt:=13) (rs:=[.tmp 4, .tmp 5, .tmp 6]) Tryz.func351 rfl rfl rfl rfl rfl (Ab fun _ k=>Y Ad (Y Ad (Y Ad (Ac k (Ab fun _ k=>Y Aa (Y Aa (Ay (hF:=TZ l c hl) (h:=Y AH (Y AH (Y AH (Y Ad (Y Ad (Y Ad (Ac k (Ai (IG (⟨?_,rfl⟩)))))))))))))))));rfl
theorem Po (l:List UInt8) (c:UInt8):Fun Tryz.prog 242 [sL l,sL [c]] (AI (iL (Go.Lib.indexByte l c)) []):=by
 refine Fun.of (nt:=8) (rs:=[.tmp 4]) Tryz.func242 rfl rfl rfl rfl rfl (Ab fun _ k=>Y Ad (Ac k (Ab fun _ k=>Y Aa (Y Aa (Ay (hF:=OA lays219 ⟨_,Tryz.func349,rfl,rfl⟩ l c) (h:=Y Ad (Ac k (Ai (Ap ?_)))))))));rfl
theorem Mi (l:List UInt8) (c:UInt8):Fun Tryz.prog 244 [sL l,sL [c]] (AI (bL (decide (Go.Lib.indexByte l c ≥ 0))) []):=by
 refine Fun.of (nt:=9) (rs:=[.tmp 4]) Tryz.func244 rfl rfl rfl rfl rfl (Ab fun _ k=>Y Ad (Ac k (Ab fun _ k=>Y Aa (Y Aa (Ay (hF:=Po l c) (h:=Y BR (Y Ad (Ac k (Ai (Ap ?_))))))))));rfl
def Rf (l:List (List UInt8)) (t:List UInt8):Int:=Cn (fun x=>decide (t=x)) l 0
theorem O9 (l:List (List UInt8)) (t:List UInt8) (hlen:l.length≤140737488355328):Fun Tryz.prog 350 [.sh 1 (l.map Hj),sL t] (AI (iL (Rf l t)) []):=by
 unfold Rf
 refine Fun.of (nt:=19) (rs:=[.tmp 4]) Tryz.func350 rfl rfl rfl rfl rfl (Ab fun _ k=>Y Ad (Ac k (Aj (Ab fun _ k=>Y Aa (Y (A5 am_el90) (Y Aa (Ac k (Ev.block (AC (ι:={q:List (List UInt8) × List (List UInt8) // q.1 ++ q.2=l∧∀ x ∈ q.1,decide (t=x)=false}) [] [0,1,7] (fun ⟨(pre,suf),_⟩=>[(8,iL (pre.length:Int))]) (fun ⟨(pre,suf),_⟩=>[]) (fun ⟨(pre,suf),_⟩=>suf.length) ⟨([],l),rfl,fun x hx=>by simp at hx⟩ (.c (.c (.c .n))) AN (Ae) ?_)))))))));rintro ⟨⟨pre,suf⟩,hp,hinv⟩ R0 hR0;dsimp only [cA,nA,lC,lN]
 simp only at hp hinv
 have hpl:=BO hp
 rcases suf with _ | ⟨s,suf⟩
 ·rw [List.append_nil] at hp;subst hp;simp only [List.length_nil] at hpl;refine Ab fun _ k=>Y As (Ac k (AG (fun c1=>?_) (fun c1=>?_)))
  ·omega
  refine AA (hR0 _ _ (Ab fun _ k=>Y Ad (Ac k (Ai (Ap ?_)))))
  congr 2;rw [Ez _ pre 0 hinv]
 simp only [lC] at hpl;have hidx:=BM hp;refine Ab fun _ k=>Y As (Ac k (AG (fun c2=>?_) (fun c2=>?_)))
 ·refine Aj (Ev.block (Ab fun _ k=>Y Aa (Y Ad (Ac k (Ab fun _ k=>Y Aa (Y Aa (Y Aa (Y (AQ am_el90 am_cl9 (hl:=(by exact Ba hidx (by omega)))) (Y (AO am_ag9) (Y DY (Ac k (Az (fun c3=>?_) (fun c3=>?_)))))))))))))
  ·refine Ab fun _ k=>Y Aa (Y Ad (Ac k (Ai (hR0 _ _ (Ap ?_)))))
   congr 2;rw [← hp,CQ _ pre _ 0 hinv,Cn,if_pos (decide_eq_true ‹_›)];omega
  refine Am (Ah fun _ k=>Y Ax (Y Aa (Ac k (hR0 _ _ (A4 [] [0,1,7] ⟨(pre ++ [s],suf),Bu hp,?_⟩ B9 AN (Ae (he:=(by simp))) (.c (.c (.c .n))))))))
  intro x hx;simp only [List.mem_append,List.mem_singleton] at hx;rcases hx with hx | rfl
  ·exact hinv x hx
  ·exact decide_eq_false ‹_›
 omega
theorem Lz (l:List (List UInt8)) (t:List UInt8) (hlen:l.length≤140737488355328):Fun Tryz.prog 245 [.sh 1 (l.map Hj),sL t] (AI (bL (decide (Rf l t ≥ 0))) []):=by
 refine Fun.of (nt:=9) (rs:=[.tmp 4]) Tryz.func245 rfl rfl rfl rfl rfl (Ab fun _ k=>Y Ad (Ac k (Ab fun _ k=>Y Aa (Y Aa (Ay (hF:=O9 l t hlen) (h:=Y BR (Y Ad (Ac k (Ai (Ap ?_))))))))));rfl
theorem Ir (l:List UInt8) (hl:l.length≤1000000000):Fun Tryz.prog 246 [sL l] (AI (sL (HK 32 l).1) []):=by
 refine Fun.of (nt:=13) (rs:=[.tmp 2]) Tryz.func246 rfl rfl rfl rfl rfl (Ab fun _ k=>Y Ad (Ac k (Ab fun _ k=>Y Aa (Ay (hF:=RS l 32 hl) (h:=Y Aa (Y AH (Y AH (Y AH (Y Ad (Y Ad (Y Ad (Ac k (Ab fun _ k=>Y Aa (Y Ad (Ac k (Ai (Ap ?_)))))))))))))))));rfl
def akLine:List UInt8:=[109,101,109,98,101,114,32,109,32,51,48,32,50,48,32,52,48]
def akWords:List (List UInt8):=[[109,101,109,98,101,114],[98,111,120],[104,111,108,101],[114,117,108,101],[98,97,114],[114,117,110],[108,97,112],[100,101,109,97,110,100],[115,116,101,112]]
theorem builds_fun:Fun Tryz.prog 136 [sL akLine] (AI (bL true) []):=by
 have h1:=Mi akLine 10;rw [show decide (Go.Lib.indexByte akLine 10 ≥ 0)=false by decide] at h1;have h2:=Ir akLine (by decide);rw [show (HK 32 akLine).1=[109,101,109,98,101,114] by decide] at h2;have h3:=Lz akWords [109,101,109,98,101,114] (by decide);rw [show decide (Rf akWords [109,101,109,98,101,114] ≥ 0)=true by decide] at h3;refine Fun.of (nt:=12) (rs:=[.tmp 2]) Tryz.func136 rfl rfl rfl rfl rfl (Ab fun _ k=>Y Ad (Ac k (Ab fun _ k=>Y Aa (Ay (hF:=h1) (h:=Y Bw (HA Aa (fun c1=>?_) (fun c1=>?_)))))))
 ·refine Aq (Bf [[_],[_],[_],[_],[_],[_],[_],[_],[_]] true am_el90 am_ze9 am_cl9) (Y Aa (Ay (hF:=h2) (h:=(SeqL.weaken (Wk.frzl (f:=Hj) akWords 7 []) (Ay (hF:=h3) (h:=Y AF (Y Ad (Ac k (Ai (Ap ?_))))))))));rfl
 contradiction
theorem Oq (l:List UInt8):FunR Tryz.prog 239 [.adr 0 0 0] [(0,⟨false,202,2,[[.adr 0 0 0, .als 1 0 l.length]],false⟩),(1,⟨true,5,1,l.map Da,true⟩)] 2 (AI (.tup []) [(0,⟨false,202,2,[[.adr 0 0 0, .als 1 0 l.length]],false⟩),(1,⟨true,5,1,l.map Da,true⟩)]):=by
 refine FunR.of (nt:=20) (rs:=[]) Tryz.func239 rfl rfl rfl rfl rfl (Ab fun _ k=>Y Aa (Y AP (Y (An 0 am_fi202_0 am_cl200) (Y (Ao am_ag200) (Of (by kernel_rfl:Tryz.prog.underlying 200=some (.pointer 202)) (h:=Ac k (Cw (Ab fun _ k=>Y Aa (Y AP (Y (An 0 am_fi202_0 am_cl200) (Y (Ao am_ag200) (Y Aa (XX (by kernel_rfl:Tryz.prog.underlying 200=some (.pointer 202)) (by kernel_rfl) (h:=Ac k (Cw (Am ?_))))))))))))))))
 show F8 _ _ _ _ Exit.ret _
 refine GG [0,1] (CO (h:=(B5 (h:=BZ)))) leads2 (⟨?_,?_⟩);all_goals rfl
theorem NB (l:List UInt8):FunR Tryz.prog 239 [.adr 0 0 0] [(0,⟨false,202,2,[[.lit (.pointer none), .als 1 0 l.length]],false⟩),(1,⟨true,5,1,l.map Da,true⟩)] 2 (AI (.tup []) [(0,⟨false,202,2,[[.adr 0 0 0, .als 1 0 l.length]],false⟩),(1,⟨true,5,1,l.map Da,true⟩)]):=by
 refine FunR.of (nt:=20) (rs:=[]) Tryz.func239 rfl rfl rfl rfl rfl (Ab fun _ k=>Y Aa (Y AP (Y (An 0 am_fi202_0 am_cl200) (Y (Ao am_ag200) (XW (by kernel_rfl:Tryz.prog.underlying 200=some (.pointer 202)) (h:=Ac k (BI (Ah fun _ k=>Y Aa (Y Aa (XV (by kernel_rfl:Tryz.prog.underlying 200=some (.pointer 202)) (by kernel_rfl) (by kernel_rfl) (h:=WJ (f:=345) (fn:=Tryz.f345) Tryz.func345 (by kernel_rfl) (by kernel_rfl) (by kernel_rfl) (by kernel_rfl) (h:=Ya (by kernel_rfl) (by kernel_rfl:Tryz.prog.underlying 200=some (.pointer 202)) (by kernel_rfl) (by kernel_rfl) (h:=Y AP (Y (An 0 am_fi202_0 am_cl200) (Ar _ false [_] am_in200 am_cl200 (h:=Ac k ?_))))))))))))))))
 show F8 _ _ _ _ Exit.ret _
 refine GG [0,1] (CO (h:=(B5 (h:=BZ)))) leads2 (⟨?_,?_⟩);all_goals rfl
theorem J7 (l s:List UInt8) (hl:l.length+s.length≤100000000000):FunR Tryz.prog 209 [.adr 0 0 0,sL s] [(0,⟨false,202,2,[[.adr 0 0 0, .als 1 0 l.length]],false⟩),(1,⟨true,5,1,l.map Da,true⟩)] 2
 (AI (.tup [iL (s.length:Int), .lit .nilIface]) [(0,⟨false,202,2,[[.adr 0 0 0, .als 2 0 (l ++ s).length]],false⟩),(2,⟨true,5,1,(l ++ s).map Da,true⟩)]):=by
 refine FunR.of (nt:=19) (rs:=[.tmp 4, .tmp 5]) Tryz.func209 rfl rfl rfl rfl rfl (Ab fun _ k=>Y Ad (Y Ad (Ac k (Ab fun _ k=>Y Aa (Cs [0,1] 2 [_,_] (hob:=(Bd (h:=(Ag)))) (hF:=Oq l) (hn':=B7 rfl rfl) (h:=Ac k (Ab fun _ k=>Y Aa (Y Aa (Y AP (Y (An 1 am_fi202_1 am_cl107) (Y (Ao am_ag107) (Y Aa (Vg [_] am_el107 am_un9 am_ze5 am_cl5 am_by5 (hh:=(A3 (f:=Da))) (h:=Y AP (Y (An 1 am_fi202_1 am_cl107) (Ar _ false [_] am_in107 am_cl107 (h:=Ac k (Ab fun _ k=>Y Aa (Y (CB am_el9 am_un9) (Y Ad (Y Ad (Ac k (Ai (Oa [0,1,2] (CO (h:=(IP (h:=(B5 (h:=BZ)))))) (GM rfl) (⟨?_,?_⟩)))))))))))))))))))))))));all_goals rfl
theorem MN (l s:List UInt8) (hl:l.length+s.length≤100000000000):FunR Tryz.prog 209 [.adr 0 0 0,sL s] [(0,⟨false,202,2,[[.lit (.pointer none), .als 1 0 l.length]],false⟩),(1,⟨true,5,1,l.map Da,true⟩)] 2
 (AI (.tup [iL (s.length:Int), .lit .nilIface]) [(0,⟨false,202,2,[[.adr 0 0 0, .als 2 0 (l ++ s).length]],false⟩),(2,⟨true,5,1,(l ++ s).map Da,true⟩)]):=by
 refine FunR.of (nt:=19) (rs:=[.tmp 4, .tmp 5]) Tryz.func209 rfl rfl rfl rfl rfl (Ab fun _ k=>Y Ad (Y Ad (Ac k (Ab fun _ k=>Y Aa (Cs [0,1] 2 [_,_] (hob:=(Bd (h:=(Ag)))) (hF:=NB l) (hn':=B7 rfl rfl) (h:=Ac k (Ab fun _ k=>Y Aa (Y Aa (Y AP (Y (An 1 am_fi202_1 am_cl107) (Y (Ao am_ag107) (Y Aa (Vg [_] am_el107 am_un9 am_ze5 am_cl5 am_by5 (hh:=(A3 (f:=Da))) (h:=Y AP (Y (An 1 am_fi202_1 am_cl107) (Ar _ false [_] am_in107 am_cl107 (h:=Ac k (Ab fun _ k=>Y Aa (Y (CB am_el9 am_un9) (Y Ad (Y Ad (Ac k (Ai (Oa [0,1,2] (CO (h:=(IP (h:=(B5 (h:=BZ)))))) (GM rfl) (⟨?_,?_⟩)))))))))))))))))))))))));all_goals rfl
theorem RT (l:List UInt8) (hl:0 < l.length):FunR Tryz.prog 106 [.adr 0 0 0] [(0,⟨false,202,2,[[.adr 0 0 0, .als 1 0 l.length]],false⟩),(1,⟨true,5,1,l.map Da,true⟩)] 2 (AI (sL l) [(0,⟨false,202,2,[[.adr 0 0 0, .als 1 0 l.length]],false⟩)]):=by
 refine FunR.of (nt:=14) (rs:=[.tmp 2]) Tryz.func106 rfl rfl rfl rfl rfl (Ab fun _ k=>Y Ad (Ac k (BW (tbs [(0,0),(1,1),(2,3),(3,7),(4,15),(0,0),(6,32),(7,96),(8,224),(9,480),(10,1023),(11,2047)]) 10 fun _ k=>Ak Aa (Ak AP (Ak (An 1 am_fi202_1 am_cl107) (Ak (Ao am_ag107) (Ak (Yr (by omega)) (Ak Aa (Ak AP (Ak (An 1 am_fi202_1 am_cl107) (Ak (Ao am_ag107) (Ak (Fq am_el107) (B3 [_,_] (h:=Yb [_] (by kernel_rfl:Tryz.prog.underlying 317=some (.pointer 5)) am_cl5 (by omega) (h:=Y Ad (Ac k (Ai (D9 [0,1] (CO (h:=(IP (h:=BZ)))) leads2 (⟨?_,?_⟩)))))))))))))))))));all_goals rfl
def EY (l:List (List UInt8)):List UInt8:=l.flatMap fun w=>w ++ [10]
theorem H2 (l:List (List UInt8)) (s:List UInt8):EY (l ++ [s])=EY l ++ (s ++ [10]):=by simp [EY]
theorem textC_len:∀ l:List (List UInt8),(∀ w ∈ l,w.length≤1000)→(EY l).length≤l.length * 1001
 |[],_=>by simp [EY]
 |w :: l,h=>by
  have h1:=textC_len l (fun x hx=>h x (by simp [hx]));have h2:=h w (by simp);simp only [EY,List.flatMap_cons,List.length_append,List.length_cons,List.length_nil] at h1 ⊢;omega
def usualT:List UInt8:=[114,117,108,101,32,52,48,32,49,32,49,48,32,55,32,55,32,49,48,32,51,32,50,32,49,48,48,10]
theorem T4 (l:List (List UInt8)) (hne:l.isEmpty=false) (hl:l.length≤300) (hw:∀ w ∈ l,w.length≤1000) (hnr:∀ w ∈ l,¬ (HK 32 w).1=[114,117,108,101]):Fun Tryz.prog 143 [.sh 1 (l.map Hj)] (AI (sL (EY l ++ usualT)) []):=by
 have hul:usualT.length=28:=rfl;have htc:=textC_len l hw;refine Fun.of (nt:=27) (rs:=[.tmp 2]) Tryz.func143 rfl rfl rfl rfl rfl (Ab fun _ k=>Y Ad (Ac k (Ab fun _ k=>Aq (AT am_ze202) (Ac k (Ab fun _ k=>Y Ad (Ac k (Aj (Av (Wk.nilv (f:=Da) 0 1 5 1 []) (Ab fun _ k=>Y Aa (Y (A5 am_el90) (Y Aa (Ac k (Ev.block (AC (ι:={p:List (List UInt8) × List (List UInt8) // p.1 ++ p.2=l∧True}) [0,1] [3,7,8] (fun ⟨(pre,suf),_⟩=>[(9,iL (pre.length:Int)),(4,bL (false))]) (fun ⟨(pre,suf),_⟩=>[(0,⟨false,202,2,[[bp (!pre.isEmpty) 0, .als 1 0 (EY pre).length]],false⟩),(1,⟨true,5,1,(EY pre).map Da,true⟩)]) (fun ⟨(pre,suf),_⟩=>suf.length) ⟨([],l),rfl,trivial⟩ (.c (.c (.c .n))) (Bd (hr:=(by exact rfl)) (h:=(Ag))) (Ae (h:=(Ae))) ?_))))))))))))));rintro ⟨⟨pre,suf⟩,hp,hinv⟩ R0 hR0;dsimp only [cA,nA,lC,lN]
 simp only at hp hinv
 have hpl:=BO hp
 rcases suf with _ | ⟨s,suf⟩
 ·rw [List.append_nil] at hp;simp only [lN] at hpl;subst pre;refine Ab fun _ k=>Y As (Ac k (AG (fun c1=>?_) (fun c1=>?_)))
  ·omega
  refine AA (hR0 _ _ (Aj ?_));rw [hne];refine Ab fun _ k=>Y Aa (Y LU (Ac k (BI (Ah fun _ k=>Cs [0,1] 3 [_,_] (hob:=(Bd (h:=(Ag)))) (hF:=J7 (EY l) usualT (by omega)) (hn':=B7 rfl rfl) (h:=Ac k ?_)))));show Ev _ _ _ _;refine Ab fun _ k=>Cs [0,2] 3 [_] (hob:=(Bd (h:=(Ag)))) (hF:=RT (EY l ++ usualT) (by rw [List.length_append,hul];omega)) (hn':=B7 rfl rfl) (h:=Y Ad (Ac k (Ai (Ap ?_))));rfl
 simp only [lC] at hpl;have hidx:=BM hp;have hsw:=hw s (by rw [← hp];simp);have hsn:=hnr s (by rw [← hp];simp);have hpt:=textC_len pre (fun c hc=>hw c (by rw [← hp];simp [hc]));refine Ab fun _ k=>Y As (Ac k (AG (fun c2=>?_) (fun c2=>?_)))
 ·refine Aj (Ev.block (Ab fun _ k=>Y (AQ am_el90 am_cl9 (hl:=(by exact Ba hidx (by omega)))) (Y (AO am_ag9) (Y Ad (Ac k (Ab fun _ k=>Y Aa (Y Xr ?_)))))))
  rcases hfl:pre.isEmpty with _ | _
  ·skip;refine Cs [0,1] 3 [_,_] (hob:=(Bd (h:=(Ag)))) (hF:=J7 (EY pre) (s ++ [10]) (by simp only [List.length_append,List.length_cons,List.length_nil];omega)) (hn':=B7 rfl rfl) (h:=Ac k (Ah fun _ k=>Y Aa (Y Aa (Y Aa (Ay (hF:=Ir s (by omega)) (h:=Y DY (Y AE (Y Ad (Ac k ?_)))))))));show Ev _ _ _ _;refine Ah fun _ k=>Y Ax (Y Aa (Ac k (hR0 _ _ (A4 [0,2] [3,7,8] ⟨(pre ++ [s],suf),Bu hp,trivial⟩ B9 (Bd (hr:=(by exact rfl)) (he:=(by simp only [H2,List.append_assoc,Qk])) (h:=(Ag (he:=(by simp only [H2,List.append_assoc]))))) (Ae (he:=(by congr 2;simp)) (h:=(Ae (he:=(by rw [decide_eq_false hsn]))))) (.c (.c (.c .n)))))));skip
  skip;refine Cs [0,1] 3 [_,_] (hob:=(Bd (h:=(Ag)))) (hF:=MN (EY pre) (s ++ [10]) (by simp only [List.length_append,List.length_cons,List.length_nil];omega)) (hn':=B7 rfl rfl) (h:=Ac k (Ah fun _ k=>Y Aa (Y Aa (Y Aa (Ay (hF:=Ir s (by omega)) (h:=Y DY (Y AE (Y Ad (Ac k ?_)))))))));show Ev _ _ _ _;refine Ah fun _ k=>Y Ax (Y Aa (Ac k (hR0 _ _ (A4 [0,2] [3,7,8] ⟨(pre ++ [s],suf),Bu hp,trivial⟩ B9 (Bd (hr:=(by exact rfl)) (he:=(by simp only [H2,List.append_assoc,Qk])) (h:=(Ag (he:=(by simp only [H2,List.append_assoc]))))) (Ae (he:=(by congr 2;simp)) (h:=(Ae (he:=(by rw [decide_eq_false hsn]))))) (.c (.c (.c .n)))))));skip
 omega
def digN:List UInt8→Nat
 |[]=>0
 |b :: l=>if Gf (b.toNat:Int) then digN l+1 else 0
theorem digN_le:∀ l:List UInt8,digN l≤l.length
 |[]=>Nat.le_refl _
 |b :: l=>by
  have:=digN_le l;simp only [digN,List.length_cons]
  split <;> omega
theorem digN_in:∀ (l:List UInt8) (k:Nat),k < digN l→∃ b,l[k]?= some b∧Gf (b.toNat:Int)
 |[],k,h=>by simp [digN] at h
 |b :: l,k,h=>by
  simp only [digN] at h
  split at h
  ·rename_i hb
   cases k with
   |zero=>exact ⟨b,rfl,hb⟩
   |succ k=>exact digN_in l k (by omega)
  ·omega
theorem digN_end:∀ (l:List UInt8) (b:UInt8),l[digN l]?= some b→¬ Gf (b.toNat:Int)
 |[],b,h=>by simp at h
 |c :: l,b,h=>by
  simp only [digN] at h
  split at h
  ·exact digN_end l b (by simpa using h)
  ·rename_i hc
   simp at h
   rw [← h];exact hc
theorem Sv {s:List UInt8} (hd:∀ b ∈ s,(b.toNat:Int)≠46) {k:Nat} (hk:k=digN s):∃ b:UInt8,(k < s.length→s[k]?= some b)∧¬ Gf (b.toNat:Int)∧(b.toNat:Int)≠46:=by
 cases h:s[k]? with
 |none=>exact ⟨0,(fun hl=>by rw [List.getElem?_eq_getElem hl] at h;cases h),by decide,by decide⟩
 |some b=>exact ⟨b,fun _=>rfl,digN_end s b (hk ▸ h),hd b (List.mem_of_getElem? h)⟩
theorem PU (s:List UInt8) (hl:s.length≤100000) (hd:∀ b ∈ s,(b.toNat:Int)≠46):Fun Tryz.prog 316 [sL s] (AI (iL (digN s:Int)) []):=by
 have hdl:=digN_le s;refine Fun.of (nt:=49) (rs:=[.tmp 2]) Tryz.func316 rfl rfl rfl rfl rfl (Ab fun _ z=>Y Ad (Ac z (Ab fun _ z=>Y Ad (Ac z (Aj (Ev.block (AC (ι:={k:Nat // k≤digN s}) [] [0] (fun ⟨k,_⟩=>[(3,iL (k:Int))]) (fun ⟨k,_⟩=>[]) (fun ⟨k,_⟩=>digN s - k) ⟨0,Nat.zero_le _⟩ (.c .n) AN (Ae) ?_)))))));rintro ⟨k,hk⟩ R0 hR0;dsimp only [cA,nA,lC,lN]
 by_cases hkl:k < digN s
 rotate_left
 ·have hke0:k=digN s:=by omega
  obtain ⟨b,hbq,hnd,hn46⟩:=Sv hd hke0;refine Aj (Ab fun _ z=>Y Aa (Y Aa (Y (CB am_el9 am_un9) (Y As (AS Aa (fun c1=>?_) (fun c1=>?_))))))
  ·refine Y Aa (Y Aa (Y (FN am_un9 (hl:=(by exact Ba (hbq (by omega)) (by omega)))) (Ay (hF:=Iq _) (h:=Y AF (Ac z (Az (fun c2=>?_) (fun c2=>?_)))))))
   ·contradiction
   refine AA (hR0 _ _ (Aj (Ab fun _ z=>Y Aa (Y Ax (Y Aa (Y (CB am_el9 am_un9) (Y As (AS Aa (fun c3=>?_) (fun c3=>?_)))))))))
   ·refine Y Aa (Y Aa (Y (FN am_un9 (hl:=(by exact Ba (hbq (by omega)) (by omega)))) (Y Bk (Y AF (AS Aa (fun c4=>?_) (fun c4=>?_))))))
    ·omega
    refine Au (Au (Bq (Y AE (Ac z (Cw (Am (Ab fun _ z=>Y Aa (Y Ad (Ac z (Ai (Ap ?_)))))))))))
    (have hke:k=digN s:=(by omega);subst hke;rfl)
   refine Au (Au (Y AE (Y Aa (Au (Au (Bq (Y AE (Ac z (Cw (Am (Ab fun _ z=>Y Aa (Y Ad (Ac z (Ai (Ap ?_)))))))))))))))
   (have hke:k=digN s:=(by omega);subst hke;rfl)
  refine Au (Au (Y AE (Ac z (Cw (AA (hR0 _ _ (Aj (Ab fun _ z=>Y Aa (Y Ax (Y Aa (Y (CB am_el9 am_un9) (Y As (AS Aa (fun c6=>?_) (fun c6=>?_))))))))))))))
  ·omega
  refine Au (Au (Y AE (Y Aa (Au (Au (Bq (Y AE (Ac z (Cw (Am (Ab fun _ z=>Y Aa (Y Ad (Ac z (Ai (Ap ?_)))))))))))))))
  (have hke:k=digN s:=(by omega);subst hke;rfl)
 obtain ⟨b,hb,hbd⟩:=digN_in s k hkl;refine Aj (Ab fun _ z=>Y Aa (Y Aa (Y (CB am_el9 am_un9) (Y As (AS Aa (fun c9=>?_) (fun c9=>?_))))))
 ·refine Y Aa (Y Aa (Y (FN am_un9 (hl:=(by exact Ba hb (by omega)))) (Ay (hF:=Iq _) (h:=Y AF (Ac z (Az (fun c10=>?_) (fun c10=>?_)))))))
  ·refine Am (Ev.block (Ah fun _ z=>Y Aa (Y Ax (Y Ad (Ac z (hR0 _ _ (A4 [] [0] ⟨k+1,by omega⟩ ?_ AN (Ae) (.c .n))))))));skip;all_goals (dsimp only;omega)
  contradiction
 omega
structure Tk where
 kd:Int
 tx:List UInt8
 ln:Int
 co:Int
def tkC:Tk→List AV | ⟨k,t,l,c⟩=>[iL k,sL t,iL l,iL c]
structure Tst where
 s:List UInt8
 o:List Tk
 l:Int
 c:Int
def tkStep:Tst→Tst
 |⟨[],o,l,c⟩=>⟨[],o,l,c⟩
 |⟨b :: r,o,l,c⟩ =>
  if b=32 then ⟨r,o,l,c+1⟩
  else if b=10 then ⟨r,o ++ [⟨4,[],l,c⟩],l+1,1⟩
  else if DF (b.toNat:Int) then ⟨(b :: r).drop (wordN (b :: r)),o ++ [⟨1,(b :: r).take (wordN (b :: r)),l,c⟩],l,c+(wordN (b :: r):Nat)⟩
  else ⟨(b :: r).drop (digN (b :: r)),o ++ [⟨2,(b :: r).take (digN (b :: r)),l,c⟩],l,c+(digN (b :: r):Nat)⟩
def Dd (s:List UInt8):Nat→Tst
 |0=>⟨s,[],1,1⟩
 |k+1=>tkStep (Dd s k)
def tkCls:List UInt8→Nat
 |[]=>0
 |b :: r=>if b=32 then 1 else if b=10 then 2 else if DF (b.toNat:Int)∧wordN (b :: r)≤20 then 3 else if ¬ DF (b.toNat:Int)∧Gf (b.toNat:Int) then 4 else 5
def akText:List UInt8:=[109,101,109,98,101,114,32,109,32,51,48,32,50,48,32,52,48,10,114,117,108,101,32,52,48,32,49,32,49,48,32,55,32,55,32,49,48,32,51,32,50,32,49,48,48,10]
theorem akSt_cls:∀ k < 30,1≤tkCls (Dd akText k).s∧tkCls (Dd akText k).s≤4:=by decide
theorem akSt_bd:∀ k < 31,(Dd akText k).s.length≤46∧(Dd akText k).o.length≤31∧1≤(Dd akText k).l∧(Dd akText k).l≤3∧1≤(Dd akText k).c∧(Dd akText k).c≤40:=by decide
theorem akSt_dot:∀ k < 31,∀ b ∈ (Dd akText k).s,(b.toNat:Int)≠46:=by decide
theorem akSt_end:(Dd akText 30).s=[]∧(Dd akText 30).l=3∧(Dd akText 30).c=1:=by decide
def akToks:List Tk:=(Dd akText 30).o ++ [⟨5,[],3,1⟩]
def Oh (b:UInt8) (r:List UInt8):Prop:=b=32∨(b≠32∧b=10)∨(b≠32∧b≠10∧DF (b.toNat:Int)∧wordN (b :: r)≤20)∨(b≠32∧b≠10∧¬ DF (b.toNat:Int)∧Gf (b.toNat:Int))
theorem Wq {s:List UInt8} (h:1≤tkCls s∧tkCls s≤4):∃ b r,s=b :: r∧Oh b r:=by
 cases s with
 |nil=>simp [tkCls] at h
 |cons b r =>
  refine ⟨b,r,rfl,?_⟩
  unfold Oh
  by_cases h1:b=32
  ·exact .inl h1
  by_cases h2:b=10
  ·exact .inr (.inl ⟨h1,h2⟩)
  by_cases h3:DF (b.toNat:Int)∧wordN (b :: r)≤20
  ·exact .inr (.inr (.inl ⟨h1,h2,h3.1,h3.2⟩))
  by_cases h4:¬ DF (b.toNat:Int)∧Gf (b.toNat:Int)
  ·exact .inr (.inr (.inr ⟨h1,h2,h4.1,h4.2⟩))
  simp only [tkCls,if_neg h1,if_neg h2,if_neg h3,if_neg h4] at h;omega
theorem NX {b:UInt8} {n:Nat} (hn:n < 256) (h:¬ (b.toNat:Int)=(n:Nat)):b≠UInt8.ofNat n:=by
 rintro rfl
 apply h
 rw [UInt8.toNat_ofNat'];omega
theorem Vx {b:UInt8} {n:Nat} (hn:n < 256) (h:(b.toNat:Int)=(n:Nat)):b=UInt8.ofNat n:=by
 have:b.toNat=n:=by omega
 rw [← this];simp
theorem Wp {b:UInt8} {r:List UInt8} (h:Oh b r):¬ (b.toNat:Int)=9∧¬ (b.toNat:Int)=35:=by
 rcases h with rfl | ⟨_,rfl⟩ | ⟨_,_,h,_⟩ | ⟨_,_,_,h⟩
 ·decide
 ·decide
 ·unfold DF at h;omega
 unfold Gf at h;omega
theorem Xy {b:UInt8} {r:List UInt8} (h:Oh b r) (hl:DF (b.toNat:Int)):wordN (b :: r)≤20:=by
 rcases h with rfl | ⟨_,rfl⟩ | ⟨_,_,_,h⟩ | ⟨_,_,h,_⟩
 ·exact absurd hl (by decide)
 ·exact absurd hl (by decide)
 ·exact h
 exact absurd hl h
theorem T5 {b:UInt8} {r:List UInt8} (h:Oh b r) (h1:¬ (b.toNat:Int)=32) (h2:¬ (b.toNat:Int)=10) (hl:¬ DF (b.toNat:Int)) (hd:¬ Gf (b.toNat:Int)):False:=by
 rcases h with rfl | ⟨_,rfl⟩ | ⟨_,_,h,_⟩ | ⟨_,_,_,h⟩
 ·exact h1 (by decide)
 ·exact h2 (by decide)
 ·exact hl h
 exact hd h
section
variable {k:Nat} {b:UInt8} {r:List UInt8} {o:List Tk} {l c:Int} (h:Dd akText k=⟨b :: r,o,l,c⟩)
include h
theorem Va (h1:(b.toNat:Int)=32):Dd akText (k+1)=⟨r,o,l,c+1⟩:=by
 have:b=32:=Vx (n:=32) (by decide) h1
 show tkStep (Dd akText k)=_
 rw [h,tkStep,if_pos this]
theorem Wr (h2:(b.toNat:Int)=10):Dd akText (k+1)=⟨r,o ++ [⟨4,[],l,c⟩],l+1,1⟩:=by
 have:b=10:=Vx (n:=10) (by decide) h2;subst this
 show tkStep (Dd akText k)=_
 rw [h,tkStep,if_neg (by decide),if_pos rfl]
theorem Ws (h1:¬ (b.toNat:Int)=32) (h2:¬ (b.toNat:Int)=10) (hl:DF (b.toNat:Int)):Dd akText (k+1)=⟨(b :: r).drop (wordN (b :: r)),o ++ [⟨1,(b :: r).take (wordN (b :: r)),l,c⟩],l,c+(wordN (b :: r):Nat)⟩:=by
 show tkStep (Dd akText k)=_
 rw [h,tkStep,if_neg (show ¬ b=32 from NX (n:=32) (by decide) h1),if_neg (show ¬ b=10 from NX (n:=10) (by decide) h2),if_pos hl]
theorem Xz (h1:¬ (b.toNat:Int)=32) (h2:¬ (b.toNat:Int)=10) (hl:¬ DF (b.toNat:Int)):Dd akText (k+1)=⟨(b :: r).drop (digN (b :: r)),o ++ [⟨2,(b :: r).take (digN (b :: r)),l,c⟩],l,c+(digN (b :: r):Nat)⟩:=by
 show tkStep (Dd akText k)=_
 rw [h,tkStep,if_neg (show ¬ b=32 from NX (n:=32) (by decide) h1),if_neg (show ¬ b=10 from NX (n:=10) (by decide) h2),if_neg hl]
end
theorem wordN_le:∀ l:List UInt8,wordN l≤l.length
 |[]=>Nat.le_refl _
 |b :: l=>by
  have:=wordN_le l;simp only [wordN,List.length_cons]
  split <;> omega
theorem tokens_fun:Fun Tryz.prog 210 [sL akText] (AI (.tup [.sh 4 (akToks.map tkC), .agg [iL 0,iL 0],iL 0]) []):=by
 have htl:akText.length=46:=rfl;refine Fun.of (nt:=92) (rs:=[.tmp 2, .cell 3 75, .tmp 4]) Tryz.func210 rfl rfl rfl rfl rfl (Ab fun _ z=>Y Ad (Aq (AT am_ze75) (Y Ad (Ac z (Aj (Ab fun _ z=>Y Aa (Y (CB am_el9 am_un9) (Y Be (Ac z (Az (fun c1=>?_) (fun c1=>?_)))))))))))
 ·omega
 refine Am (Ab fun _ z=>Y Ad (Ac z (Ab fun _ z=>Y (Bg [_,_] am_ze75 am_pl75) (Aq (AT am_ze75) (Ar [_,_] true [_] am_in75 am_cl75 (h:=Ac z (Aj (Ev.block (Av (Wk.nown tkC 5 330 4) (AC (ι:={k:Nat // k≤30}) [0,2,1] [3,6] (fun ⟨k,_⟩=>[(0,sL ((Dd akText k).s)),(5, .als 1 0 ((Dd akText k).o).length)]) (fun ⟨k,_⟩=>[(0,⟨false,75,2,[[iL (0),iL (0)]],true⟩),(1,⟨true,330,4,((Dd akText k).o).map tkC,true⟩),(2,⟨false,75,2,[[iL ((Dd akText k).l),iL ((Dd akText k).c)]],true⟩)]) (fun ⟨k,_⟩=>30 - k) ⟨0,Nat.zero_le _⟩ (.c (.c .n)) (Ag (h:=(Ag (h:=(Ag))))) (Ae (h:=(Ae))) ?_))))))))));rintro ⟨k,hk⟩ R0 hR0;dsimp only [cA,nA,lC,lN];have hbd:=akSt_bd k (by omega);have hdt:=akSt_dot k (by omega)
 by_cases hke:k=30
 ·have hend:=akSt_end
  have hs0:(Dd akText k).s=[]:=by rw [hke];exact hend.1
  rw [hs0];refine Aj (Ab fun _ z=>Y Aa (Y Kc (Ac z (Bh (fun c2=>?_) (fun c2=>?_)))))
  ·contradiction
  refine AA (hR0 _ _ (Ab fun _ z=>Y Aa (Y (A6 [_,_] am_ag75 am_cl75) (Y (Bg [_,_,_,_] am_ze330 am_pl330) (Aq (Bf [[_,_,_,_]] true am_el318 am_ze330 am_cl330) (AW [_,_,_] am_el318 am_ze330 am_cl330 am_by330 (hh:=A3) (hr:=(A7 [(⟨_,_,_,_⟩:Tk)])) (h:=Y (Bg [_,_] am_ze75 am_pl75) (Y Ad (Ar [_,_] true [_,_,_] am_in75 am_cl75 (h:=Y Ad (Ac z (Av (Wk.frz 2 [_,_,_]) (Ai (Df (Db (Bp [_,_] am_ag75 am_cl75 (Db res_n))) (⟨?_,rfl⟩)))))))))))))));subst hke;rw [hend.2.1,hend.2.2];rfl
 obtain ⟨b,r,hs0,hcl⟩:=Wq (akSt_cls k (by omega));obtain ⟨hn9,hn35⟩:=Wp hcl
 rcases hst:(Dd akText k) with ⟨s,o,l,c⟩
 rw [hst] at hbd hdt hs0
 dsimp only at hbd hdt hs0 ⊢
 subst hs0;have hlc:(b :: r).length=r.length+1:=rfl;have hidx:(b :: r)[(0:Int).toNat]?= some b:=rfl;have hwl:=wordN_le (b :: r);have hdl:=digN_le (b :: r);refine Aj (Ab fun _ z=>Y Aa (Y Kc (Ac z (Bh (fun c3=>?_) (fun c3=>?_)))))
 ·refine Am (Ev.block (Ab fun _ z=>Y Ad (Y Ad (Ac z (Aj (Ab fun _ z=>Y Aa (Y (FN am_un9 (hl:=(by exact Ba hidx (by omega)))) (Y Ad (Ac z (Ev.block (Ab fun _ z=>Y Aa (Y Bk (AS Aa (fun c4=>?_) (fun c4=>?_))))))))))))))
  ·refine Au (Y AF (Y Ad (Ac z (BI ?_))));have hs1:=Va hst (by assumption);refine Ah fun _ z=>Y Ad (Ac z ?_);show Ev _ _ _ _;refine Aj (Ab fun _ z=>Y Aa (Y Bn (Ac z (Bh (fun c5=>?_) (fun c5=>?_)))))
   ·omega
   refine Am (Ab fun _ z=>Y Aa (Y Aa (Y (GR am_el9 am_un9) (Y Ad (Ac z (Ah fun _ z=>Y (An 1 am_fi75_1 am_cl3) (Y (Ao am_ag3) (Y Aa (Y Ax (Y (An 1 am_fi75_1 am_cl3) (Ar [_,_] true [_,_] am_in3 am_cl3 (h:=Ac z (hR0 _ _ (A4 [0,1,2] [3,6] ⟨k+1,by omega⟩ ?_ (Ag (h:=(Ag (he:=(by rw [hs1])) (h:=(Ag (he:=(by rw [hs1]))))))) (Ae (he:=(by simp only [hs1,List.map_append];rfl)) (h:=(Ae (he:=(by rw [hs1]))))) (.c (.c .n))))))))))))))));skip;all_goals (dsimp only;omega)
  refine Y Aa (Y Bk (Y AE (Y Ad (Ac z (Az (fun c6=>?_) (fun c6=>?_))))))
  ·omega
  refine Ab fun _ z=>Y Aa (Y Bk (Y Ad (Ac z (Az (fun c8=>?_) (fun c8=>?_)))))
  ·have hs1:=Wr hst (by omega);refine Ab fun _ z=>Y Aa (Y (A6 [_,_] am_ag75 am_cl75) (Y (Bg [_,_,_,_] am_ze330 am_pl330) (Aq (Bf [[_,_,_,_]] true am_el318 am_ze330 am_cl330) (AW [_,_,_] am_el318 am_ze330 am_cl330 am_by330 (hh:=A3) (hr:=(A7 [(⟨_,_,_,_⟩:Tk)])) (h:=Y Ad (Ac z (J8 (m:=8) (L0:= #[false,false,false,false,false,false,false,false]) rfl (by kernel_rfl) (by exact rfl) fun _ z=>(CL (i:=0) rfl (h:=(Ig (i:=2) am_fi75_0 (by rw [am_cl3];decide) rfl (h:=(.done (By (i:=1) (j:=3) trivial rfl rfl (Y (GR am_el9 am_un9) (Af ?_)) (Y (Ao am_ag3) (Af ?_)))))))))))))))
   ·skip;refine By (i:=3) (j:=6) trivial rfl rfl (Y (Ao am_ag3) (Af ?_)) (Y Ad (Af ?_))
    ·skip;refine By (i:=4) (j:=6) trivial rfl rfl (Y Ax (Af ?_)) (Y Ad (Af ?_))
     ·skip;refine By (i:=5) (j:=6) trivial rfl rfl (Y (Bg [_,_] am_ze75 am_pl75) (Af ?_)) (Y Ad (Af ?_))
      ·skip;refine HT.one (i:=6) trivial rfl (Y Ad (Af (HT.one (i:=7) trivial rfl (Ar [_,_] true [_,_,_] am_in75 am_cl75 (h:=Af (Bc trivial (by kernel_rfl) (z _ (AA (hR0 _ _ (A4 [0,4,2] [3,6] ⟨k+1,by omega⟩ ?_ (Ag (h:=(Ag (he:=(by rw [hs1])) (h:=(Ag (he:=(by rw [hs1]))))))) (Ae (he:=(by simp only [hs1,List.map_append];rfl)) (h:=(Ae (he:=(by rw [hs1]))))) (.c (.c .n))))))))))));skip;all_goals (dsimp only;omega)
      skip;refine HT.one (i:=5) trivial rfl (Y (Bg [_,_] am_ze75 am_pl75) (Af (HT.one (i:=7) trivial rfl (Ar [_,_] true [_,_,_] am_in75 am_cl75 (h:=Af (Bc trivial (by kernel_rfl) (z _ (AA (hR0 _ _ (A4 [0,4,2] [3,6] ⟨k+1,by omega⟩ ?_ (Ag (h:=(Ag (he:=(by rw [hs1])) (h:=(Ag (he:=(by rw [hs1]))))))) (Ae (he:=(by simp only [hs1,List.map_append];rfl)) (h:=(Ae (he:=(by rw [hs1]))))) (.c (.c .n))))))))))));skip;all_goals (dsimp only;omega)
     skip;refine HT.one (i:=4) trivial rfl (Y Ax (Af (HT.one (i:=5) trivial rfl (Y (Bg [_,_] am_ze75 am_pl75) (Af (HT.one (i:=7) trivial rfl (Ar [_,_] true [_,_,_] am_in75 am_cl75 (h:=Af (Bc trivial (by kernel_rfl) (z _ (AA (hR0 _ _ (A4 [0,4,2] [3,6] ⟨k+1,by omega⟩ ?_ (Ag (h:=(Ag (he:=(by rw [hs1])) (h:=(Ag (he:=(by rw [hs1]))))))) (Ae (he:=(by simp only [hs1,List.map_append];rfl)) (h:=(Ae (he:=(by rw [hs1]))))) (.c (.c .n)))))))))))))));skip;all_goals (dsimp only;omega)
    skip;refine HT.one (i:=3) trivial rfl (Y (Ao am_ag3) (Af (HT.one (i:=4) trivial rfl (Y Ax (Af (HT.one (i:=5) trivial rfl (Y (Bg [_,_] am_ze75 am_pl75) (Af (HT.one (i:=7) trivial rfl (Ar [_,_] true [_,_,_] am_in75 am_cl75 (h:=Af (Bc trivial (by kernel_rfl) (z _ (AA (hR0 _ _ (A4 [0,4,2] [3,6] ⟨k+1,by omega⟩ ?_ (Ag (h:=(Ag (he:=(by rw [hs1])) (h:=(Ag (he:=(by rw [hs1]))))))) (Ae (he:=(by simp only [hs1,List.map_append];rfl)) (h:=(Ae (he:=(by rw [hs1]))))) (.c (.c .n))))))))))))))))));skip;all_goals (dsimp only;omega)
   skip;refine By (i:=1) (j:=4) trivial rfl rfl (Y (GR am_el9 am_un9) (Af ?_)) (Y Ax (Af ?_))
   ·skip;refine By (i:=4) (j:=6) trivial rfl rfl (Y Ax (Af ?_)) (Y Ad (Af ?_))
    ·skip;refine By (i:=5) (j:=6) trivial rfl rfl (Y (Bg [_,_] am_ze75 am_pl75) (Af ?_)) (Y Ad (Af ?_))
     ·skip;refine HT.one (i:=6) trivial rfl (Y Ad (Af (HT.one (i:=7) trivial rfl (Ar [_,_] true [_,_,_] am_in75 am_cl75 (h:=Af (Bc trivial (by kernel_rfl) (z _ (AA (hR0 _ _ (A4 [0,4,2] [3,6] ⟨k+1,by omega⟩ ?_ (Ag (h:=(Ag (he:=(by rw [hs1])) (h:=(Ag (he:=(by rw [hs1]))))))) (Ae (he:=(by simp only [hs1,List.map_append];rfl)) (h:=(Ae (he:=(by rw [hs1]))))) (.c (.c .n))))))))))));skip;all_goals (dsimp only;omega)
     skip;refine HT.one (i:=5) trivial rfl (Y (Bg [_,_] am_ze75 am_pl75) (Af (HT.one (i:=7) trivial rfl (Ar [_,_] true [_,_,_] am_in75 am_cl75 (h:=Af (Bc trivial (by kernel_rfl) (z _ (AA (hR0 _ _ (A4 [0,4,2] [3,6] ⟨k+1,by omega⟩ ?_ (Ag (h:=(Ag (he:=(by rw [hs1])) (h:=(Ag (he:=(by rw [hs1]))))))) (Ae (he:=(by simp only [hs1,List.map_append];rfl)) (h:=(Ae (he:=(by rw [hs1]))))) (.c (.c .n))))))))))));skip;all_goals (dsimp only;omega)
    skip;refine HT.one (i:=4) trivial rfl (Y Ax (Af (HT.one (i:=5) trivial rfl (Y (Bg [_,_] am_ze75 am_pl75) (Af (HT.one (i:=7) trivial rfl (Ar [_,_] true [_,_,_] am_in75 am_cl75 (h:=Af (Bc trivial (by kernel_rfl) (z _ (AA (hR0 _ _ (A4 [0,4,2] [3,6] ⟨k+1,by omega⟩ ?_ (Ag (h:=(Ag (he:=(by rw [hs1])) (h:=(Ag (he:=(by rw [hs1]))))))) (Ae (he:=(by simp only [hs1,List.map_append];rfl)) (h:=(Ae (he:=(by rw [hs1]))))) (.c (.c .n)))))))))))))));skip;all_goals (dsimp only;omega)
   skip;refine By (i:=1) (j:=5) trivial rfl rfl (Y (GR am_el9 am_un9) (Af ?_)) (Y (Bg [_,_] am_ze75 am_pl75) (Af ?_))
   ·skip;refine By (i:=5) (j:=6) trivial rfl rfl (Y (Bg [_,_] am_ze75 am_pl75) (Af ?_)) (Y Ad (Af ?_))
    ·skip;refine HT.one (i:=6) trivial rfl (Y Ad (Af (HT.one (i:=7) trivial rfl (Ar [_,_] true [_,_,_] am_in75 am_cl75 (h:=Af (Bc trivial (by kernel_rfl) (z _ (AA (hR0 _ _ (A4 [0,4,2] [3,6] ⟨k+1,by omega⟩ ?_ (Ag (h:=(Ag (he:=(by rw [hs1])) (h:=(Ag (he:=(by rw [hs1]))))))) (Ae (he:=(by simp only [hs1,List.map_append];rfl)) (h:=(Ae (he:=(by rw [hs1]))))) (.c (.c .n))))))))))));skip;all_goals (dsimp only;omega)
    skip;refine HT.one (i:=5) trivial rfl (Y (Bg [_,_] am_ze75 am_pl75) (Af (HT.one (i:=7) trivial rfl (Ar [_,_] true [_,_,_] am_in75 am_cl75 (h:=Af (Bc trivial (by kernel_rfl) (z _ (AA (hR0 _ _ (A4 [0,4,2] [3,6] ⟨k+1,by omega⟩ ?_ (Ag (h:=(Ag (he:=(by rw [hs1])) (h:=(Ag (he:=(by rw [hs1]))))))) (Ae (he:=(by simp only [hs1,List.map_append];rfl)) (h:=(Ae (he:=(by rw [hs1]))))) (.c (.c .n))))))))))));skip;all_goals (dsimp only;omega)
   skip;refine HT.one (i:=1) trivial rfl (Y (GR am_el9 am_un9) (Af (HT.one (i:=6) trivial rfl (Y Ad (Af (HT.one (i:=7) trivial rfl (Ar [_,_] true [_,_,_] am_in75 am_cl75 (h:=Af (Bc trivial (by kernel_rfl) (z _ (AA (hR0 _ _ (A4 [0,4,2] [3,6] ⟨k+1,by omega⟩ ?_ (Ag (h:=(Ag (he:=(by rw [hs1])) (h:=(Ag (he:=(by rw [hs1]))))))) (Ae (he:=(by simp only [hs1,List.map_append];rfl)) (h:=(Ae (he:=(by rw [hs1]))))) (.c (.c .n)))))))))))))));skip;all_goals (dsimp only;omega)
  refine Ab fun _ z=>Y Aa (Y Bk (Y Ad (Ac z (Az (fun c9=>?_) (fun c9=>?_)))))
  ·omega
  refine Ab fun _ z=>Y Aa (Ay (hF:=Jl _) (h:=Y Ad (Ac z (Az (fun c10=>?_) (fun c10=>?_)))))
  ·refine Ab fun _ z=>Y Aa (Ay (hF:=P0 _ (by omega)) (h:=Y Ad (Y Ad (Ac z ?_))));have hw20:=Xy hcl (by assumption);have hs1:=Ws hst (by omega) (by omega) (by assumption);refine Ab fun _ z=>Y Aa (Y Be (Ac z (Az (fun c11=>?_) (fun c11=>?_))))
   ·omega
   refine Am (Aj (Ab fun _ z=>Y Aa (Y Bn (Ac z (Bh (fun c12=>?_) (fun c12=>?_))))))
   ·refine CP (tbs [(0,0),(0,0),(0,0),(0,0),(4,12),(0,0),(6,62),(7,126),(8,255),(9,511)]) 8 fun _ z=>Ak Aa (Ak Aa (Ak Aa (Ak Aa (Ak (Pa am_el9 am_un9) (Ak (A6 [_,_] am_ag75 am_cl75) (Ak (Bg [_,_,_,_] am_ze330 am_pl330) (FQ [_] (Bf [[_,_,_,_]] true am_el318 am_ze330 am_cl330) (h:=B3 [_,_,_,_] (h:=AW [_,_,_] am_el318 am_ze330 am_cl330 am_by330 (hh:=A3) (hr:=(A7 [(⟨_,_,_,_⟩:Tk)])) (h:=Y Ad (Ac z ?_)))))))))));show Ev _ _ _ _;refine Ab fun _ z=>Y Aa (Y Aa (Y (GR am_el9 am_un9) (Y Ad (Ac z (Ah fun _ z=>Y (An 1 am_fi75_1 am_cl3) (Y (Ao am_ag3) (Y Aa (Y Ax (Y (An 1 am_fi75_1 am_cl3) (Ar [_,_] true [_,_,_] am_in3 am_cl3 (h:=Ac z (hR0 _ _ (A4 [0,35,2] [3,6] ⟨k+1,by omega⟩ ?_ (Ag (h:=(Ag (he:=(by simp only [hs1,List.map_append];rfl)) (h:=(Ag (he:=(by rw [hs1]))))))) (Ae (he:=(by simp only [hs1,List.map_append];rfl)) (h:=(Ae (he:=(by simp only [hs1,List.drop_succ_cons,List.drop_zero,List.length_append,List.length_cons,List.length_nil]))))) (.c (.c .n)))))))))))))));skip;all_goals (dsimp only;omega)
   omega
  refine Ab fun _ z=>Y Aa (Ay (hF:=Iq _) (h:=Y Ad (Ac z (Az (fun c13=>?_) (fun c13=>?_)))))
  ·have hs1:=Xz hst (by omega) (by omega) (by assumption);refine Ah fun _ z=>Y Aa (Ay (hF:=PU _ (by omega) hdt) (h:=Y Ad (Y Ad (Ac z ?_))));show Ev _ _ _ _;refine Aj (Ab fun _ z=>Y Aa (Y Bn (Ac z (Bh (fun c14=>?_) (fun c14=>?_)))))
   ·refine CP (tbs [(0,0),(0,0),(0,0),(0,0),(4,12),(0,0),(6,62),(7,126),(8,255),(9,511)]) 8 fun _ z=>Ak Aa (Ak Aa (Ak Aa (Ak Aa (Ak (Pa am_el9 am_un9) (Ak (A6 [_,_] am_ag75 am_cl75) (Ak (Bg [_,_,_,_] am_ze330 am_pl330) (FQ [_] (Bf [[_,_,_,_]] true am_el318 am_ze330 am_cl330) (h:=B3 [_,_,_,_] (h:=AW [_,_,_] am_el318 am_ze330 am_cl330 am_by330 (hh:=A3) (hr:=(A7 [(⟨_,_,_,_⟩:Tk)])) (h:=Y Ad (Ac z ?_)))))))))));show Ev _ _ _ _;refine Ab fun _ z=>Y Aa (Y Aa (Y (GR am_el9 am_un9) (Y Ad (Ac z (Ah fun _ z=>Y (An 1 am_fi75_1 am_cl3) (Y (Ao am_ag3) (Y Aa (Y Ax (Y (An 1 am_fi75_1 am_cl3) (Ar [_,_] true [_,_,_] am_in3 am_cl3 (h:=Ac z (hR0 _ _ (A4 [0,35,2] [3,6] ⟨k+1,by omega⟩ ?_ (Ag (h:=(Ag (he:=(by simp only [hs1,List.map_append];rfl)) (h:=(Ag (he:=(by rw [hs1]))))))) (Ae (he:=(by simp only [hs1,List.map_append];rfl)) (h:=(Ae (he:=(by simp only [hs1,List.drop_succ_cons,List.drop_zero,List.length_append,List.length_cons,List.length_nil]))))) (.c (.c .n)))))))))))))));skip;all_goals (dsimp only;omega)
   omega
  exact (T5 hcl ‹_› ‹_› ‹_› ‹_›).elim
 contradiction
open Go.Shelf in
shelf_lay LaysM.n171 Nm 171 at Tryz as lays171
theorem Rh {n:Int} (h0:0≤n) (h1:n≤1099511627777):Fun Tryz.prog 42 [iL n] (AI (sL (Go.Lib.itoa n)) []) :=
 Uk lays171 ⟨_,Tryz.func42,rfl,rfl⟩ (g:=1) (by kernel_rfl) (by unfold laidG;exact List.mem_singleton.2 rfl) (by omega) (by omega)
theorem D8 {tk:List Tk} {v2 v3 v4 v5 v6 v7 v8 v9 v10 v11 v12 v13 v14 v15 v16 v17 v18 v19 v20 v21:Value} (j:Int) {a l c:Int} {t:List UInt8} (h0:0≤j) (h:tk[j.toNat]?= some ⟨a,t,l,c⟩):FunR Tryz.prog 213 [.adr 0 0 0] [(0,⟨false,328,22,[[.sh 4 (tk.map tkC),iL (j), .lit v2, .lit v3, .lit v4, .lit v5, .lit v6, .lit v7, .lit v8, .lit v9, .lit v10, .lit v11, .lit v12, .lit v13, .lit v14, .lit v15, .lit v16, .lit v17, .lit v18, .lit v19, .lit v20, .lit v21]],true⟩)] 1 (AI (.agg [iL a,sL t,iL l,iL c]) [(0,⟨false,328,22,[[.sh 4 (tk.map tkC),iL (j), .lit v2, .lit v3, .lit v4, .lit v5, .lit v6, .lit v7, .lit v8, .lit v9, .lit v10, .lit v11, .lit v12, .lit v13, .lit v14, .lit v15, .lit v16, .lit v17, .lit v18, .lit v19, .lit v20, .lit v21]],true⟩)]):=by
 refine FunR.of (nt:=13) (rs:=[.cell 2 330]) Tryz.func213 rfl rfl rfl rfl rfl (Ab fun _ G=>Aq (AT am_ze330) (Ac G (BW (tbs [(0,0),(1,1),(2,3),(3,7),(0,0),(5,16),(6,48),(7,112),(8,255),(9,511),(10,1023)]) 10 fun _ G=>Ak Aa (Ak AP (Ak (An 0 am_fi326_0 am_cl318) (Ak (Ao am_ag318) (Ak Aa (Ak AP (Ak (An 1 am_fi326_1 am_cl3) (Ak (Ao am_ag3) (Ak (AQ am_el318 am_cl330 (hl:=(by exact Ba h (by omega)))) (Ak (Bv _ am_ag330 am_cl330) (B3 [_,_] (h:=Ar _ true [_] am_in330 am_cl330 (h:=Ac G (Ai (V1 [0] (Bp [_,_,_,_] am_ag330 am_cl330 res_n) (B5 (h:=BZ)) leads1 (⟨?_,?_⟩))))))))))))))))));all_goals rfl
def Km (tk:List Tk) (j e:Int):Prop:=j≤e∧(∀ i,j≤i→i < e→∃ t l c,tk[i.toNat]?= some ⟨4,t,l,c⟩)∧∃ a t l c,tk[e.toNat]?= some ⟨a,t,l,c⟩∧a≠4
theorem Us {tk:List Tk} {j a l c:Int} {t:List UInt8} (h:tk[j.toNat]?= some ⟨a,t,l,c⟩) (ha:a≠4):Km tk j j:=⟨Int.le_refl _,fun i h1 h2=>by omega,a,t,l,c,h,ha⟩
theorem OF {tk:List Tk} {j a l c l' c':Int} {t t':List UInt8} (h1:tk[j.toNat]?= some ⟨4,t',l',c'⟩) (h:tk[(j+1).toNat]?= some ⟨a,t,l,c⟩) (ha:a≠4):Km tk j (j+1):=⟨by omega,fun i h2 h3=>⟨t',l',c',by rw [show i=j by omega];exact h1⟩,a,t,l,c,h,ha⟩
theorem Ny {tk:List Tk} {v2 v3 v4 v5 v6 v7 v8 v9 v10 v11 v12 v13 v14 v15 v16 v17 v18 v19 v20 v21:Value} (j e:Int) (h0:0≤j) (he:e≤100000) (hL:Km tk j e):FunR Tryz.prog 212 [.adr 0 0 0] [(0,⟨false,328,22,[[.sh 4 (tk.map tkC),iL (j), .lit v2, .lit v3, .lit v4, .lit v5, .lit v6, .lit v7, .lit v8, .lit v9, .lit v10, .lit v11, .lit v12, .lit v13, .lit v14, .lit v15, .lit v16, .lit v17, .lit v18, .lit v19, .lit v20, .lit v21]],true⟩)] 1 (AI (.tup []) [(0,⟨false,328,22,[[.sh 4 (tk.map tkC),iL (e), .lit v2, .lit v3, .lit v4, .lit v5, .lit v6, .lit v7, .lit v8, .lit v9, .lit v10, .lit v11, .lit v12, .lit v13, .lit v14, .lit v15, .lit v16, .lit v17, .lit v18, .lit v19, .lit v20, .lit v21]],true⟩)]):=by
 obtain ⟨hje,hA,a,t,l,c,hE,hne⟩:=hL;refine FunR.of (nt:=13) (rs:=[]) Tryz.func212 rfl rfl rfl rfl rfl (Ev.block (AC (ι:={i:Int // j≤i∧i≤e}) [0] [0] (fun ⟨i,_⟩=>[]) (fun ⟨i,_⟩=>[(0,⟨false,328,22,[[.sh 4 ((tk).map tkC),iL (i), .lit v2, .lit v3, .lit v4, .lit v5, .lit v6, .lit v7, .lit v8, .lit v9, .lit v10, .lit v11, .lit v12, .lit v13, .lit v14, .lit v15, .lit v16, .lit v17, .lit v18, .lit v19, .lit v20, .lit v21]],true⟩)]) (fun ⟨i,_⟩=>(e - i).toNat) ⟨j,Int.le_refl _,hje⟩ (.c .n) (Ag) trivial ?_));rintro ⟨i,hi1,hi2⟩ R0 hR0;dsimp only [cA,nA,lC,lN]
 by_cases hie:i=e
 ·have hx:=hie ▸ hE;refine Aj (Ab fun _ G=>Y Aa (Cs [0] 1 [_] (hob:=(Ag)) (hF:=D8 i (by omega) hx) (hn':=B7 rfl rfl) (h:=Y (OZ am_fi330_0 am_ag3) (Y Bk (Ac G (Az (fun c1=>?_) (fun c1=>?_)))))))
  ·omega
  refine AA (hR0 _ _ ?_)
  show F8 _ _ _ _ Exit.ret _
  refine GG [0] (B5 (h:=BZ)) leads1 (⟨?_,?_⟩)
  all_goals first | rfl | (subst hie;rfl)
 obtain ⟨t,l,c,hx⟩:=hA i hi1 (by omega);refine Aj (Ab fun _ G=>Y Aa (Cs [0] 1 [_] (hob:=(Ag)) (hF:=D8 i (by omega) hx) (hn':=B7 rfl rfl) (h:=Y (OZ am_fi330_0 am_ag3) (Y Bk (Ac G (Az (fun c2=>?_) (fun c2=>?_)))))))
 ·refine Am (Ev.block (Ah fun _ G=>Y Aa (Y AP (Y (An 1 am_fi326_1 am_cl3) (Y (Ao am_ag3) (Y Ax (Y AP (Y (An 1 am_fi326_1 am_cl3) (Ar _ true [] am_in3 am_cl3 (h:=Ac G (hR0 _ _ (A4 [0] [0] ⟨i+1,by omega,by omega⟩ ?_ (Ag) trivial (.c .n)))))))))))));skip;all_goals (dsimp only;omega)
 omega
theorem Pd {tk:List Tk} {v2 v3 v4 v5 v6 v7 v8 v9 v10 v11 v12 v13 v14 v15 v16 v17 v18 v19 v20 v21:Value} (j e:Int) (h0:0≤j) (he:e≤100000) (hL:Km tk j e) {t:List UInt8} {l c:Int} (h:tk[j.toNat]?= some ⟨4,t,l,c⟩):FunR Tryz.prog 217 [.adr 0 0 0] [(0,⟨false,328,22,[[.sh 4 (tk.map tkC),iL (j), .lit v2, .lit v3, .lit v4, .lit v5, .lit v6, .lit v7, .lit v8, .lit v9, .lit v10, .lit v11, .lit v12, .lit v13, .lit v14, .lit v15, .lit v16, .lit v17, .lit v18, .lit v19, .lit v20, .lit v21]],true⟩)] 1 (AI (.tup []) [(0,⟨false,328,22,[[.sh 4 (tk.map tkC),iL (e), .lit v2, .lit v3, .lit v4, .lit v5, .lit v6, .lit v7, .lit v8, .lit v9, .lit v10, .lit v11, .lit v12, .lit v13, .lit v14, .lit v15, .lit v16, .lit v17, .lit v18, .lit v19, .lit v20, .lit v21]],true⟩)]):=by
 refine FunR.of (nt:=10) (rs:=[]) Tryz.func217 rfl rfl rfl rfl rfl (Aj (Ab fun _ G=>Y Aa (Cs [0] 1 [_] (hob:=(Ag)) (hF:=D8 j h0 h) (hn':=B7 rfl rfl) (h:=Y (OZ am_fi330_0 am_ag3) (Y Bn (Ac G (Bh (fun c1=>?_) (fun c1=>?_))))))))
 ·omega
 refine Am (Ah fun _ G=>Y Aa (Cs [0] 1 [_] (hob:=(Ag)) (hF:=Ny j e h0 he hL) (hn':=B7 rfl rfl) (h:=Ac G ?_)))
 show F8 _ _ _ _ Exit.ret _
 refine GG [0] (B5 (h:=BZ)) leads1 (⟨?_,?_⟩);all_goals rfl
theorem Tl {tk:List Tk} {v2 v3 v4 v5 v6 v7 v8 v9 v10 v11 v12 v13 v14 v15 v16 v17 v18 v19 v20 v21:Value} (j:Int) (h0:0≤j) (hj:j≤100000) {t:List UInt8} {l c:Int} (h:tk[j.toNat]?= some ⟨1,t,l,c⟩):FunR Tryz.prog 215 [.adr 0 0 0] [(0,⟨false,328,22,[[.sh 4 (tk.map tkC),iL (j), .lit v2, .lit v3, .lit v4, .lit v5, .lit v6, .lit v7, .lit v8, .lit v9, .lit v10, .lit v11, .lit v12, .lit v13, .lit v14, .lit v15, .lit v16, .lit v17, .lit v18, .lit v19, .lit v20, .lit v21]],true⟩)] 1 (AI (sL t) [(0,⟨false,328,22,[[.sh 4 (tk.map tkC),iL (j+1), .lit v2, .lit v3, .lit v4, .lit v5, .lit v6, .lit v7, .lit v8, .lit v9, .lit v10, .lit v11, .lit v12, .lit v13, .lit v14, .lit v15, .lit v16, .lit v17, .lit v18, .lit v19, .lit v20, .lit v21]],true⟩)]):=by
 refine FunR.of (nt:=20) (rs:=[.tmp 2]) Tryz.func215 rfl rfl rfl rfl rfl (Ab fun _ G=>Y Ad (Ac G (Ab fun _ G=>Y Aa (Cs [0] 1 [_] (hob:=(Ag)) (hF:=D8 j h0 h) (hn':=B7 rfl rfl) (h:=Aq (AT am_ze330) (Ar _ true [_] am_in330 am_cl330 (h:=Ac G (Aj (Ab fun _ G=>Y (An 0 am_fi330_0 am_cl3) (Y (Ao am_ag3) (Y Bn (Ac G (Bh (fun c1=>?_) (fun c1=>?_))))))))))))))
 ·omega
 refine Am (Ab fun _ G=>Y Aa (Y AP (Y (An 1 am_fi326_1 am_cl3) (Y (Ao am_ag3) (Y Ax (Y AP (Y (An 1 am_fi326_1 am_cl3) (Ar _ true [_] am_in3 am_cl3 (h:=Ac G (Ab fun _ G=>Y (An 1 am_fi330_1 am_cl9) (Y (Ao am_ag9) (Y Ad (Ac G (Ai (D9 [0] (B5 (h:=BZ)) leads1 (⟨?_,?_⟩))))))))))))))));all_goals rfl
open Go.Shelf in
shelf_lay Lays.n172 Nm 172 at Tryz as lays172
theorem QJ {w:List UInt8} {v:Int} (hl:w.length≤15) (h:Go.Lib.atoi w=some v):Fun Tryz.prog 352 [sL w] (AI (.tup [iL v, .lit .nilIface]) []) :=
 WO lays172 ⟨_,Tryz.func352,rfl,rfl⟩ w v (by omega) h
theorem un_if239:Tryz.prog.underlying 239=some (.interface #[("Error",206)]):=by kernel_rfl
def FR (t:List UInt8) (n:Int):Prop:=t.length≤15∧Go.Lib.atoi t=some n∧0≤n∧n≤1000∧Go.Lib.itoa n=t
theorem Do {tk:List Tk} {v2 v3 v4 v5 v6 v7 v8 v9 v10 v11 v12 v13 v14 v15 v16 v17 v18 v19 v20 v21:Value} (j:Int) (h0:0≤j) (hj:j≤100000) {t:List UInt8} {l c n:Int} (h:tk[j.toNat]?= some ⟨2,t,l,c⟩) (hN:FR t n):FunR Tryz.prog 318 [.adr 0 0 0] [(0,⟨false,328,22,[[.sh 4 (tk.map tkC),iL (j), .lit v2, .lit v3, .lit v4, .lit v5, .lit v6, .lit v7, .lit v8, .lit v9, .lit v10, .lit v11, .lit v12, .lit v13, .lit v14, .lit v15, .lit v16, .lit v17, .lit v18, .lit v19, .lit v20, .lit v21]],true⟩)] 1 (AI (iL n) [(0,⟨false,328,22,[[.sh 4 (tk.map tkC),iL (j+1), .lit v2, .lit v3, .lit v4, .lit v5, .lit v6, .lit v7, .lit v8, .lit v9, .lit v10, .lit v11, .lit v12, .lit v13, .lit v14, .lit v15, .lit v16, .lit v17, .lit v18, .lit v19, .lit v20, .lit v21]],true⟩)]):=by
 obtain ⟨htl,hA,hn0,hn1,hI⟩:=hN;refine FunR.of (nt:=65) (rs:=[.tmp 2]) Tryz.func318 rfl rfl rfl rfl rfl (Ab fun _ G=>Y Ad (Ac G (Ab fun _ G=>Y Ad (Ac G (Aj (Ab fun _ G=>Y Aa (Cs [0] 1 [_] (hob:=(Ag)) (hF:=D8 j h0 h) (hn':=B7 rfl rfl) (h:=Aq (AT am_ze330) (Ar _ true [_] am_in330 am_cl330 (h:=Ac G (Ab fun _ G=>Y (An 0 am_fi330_0 am_cl3) (Y (Ao am_ag3) (Y Bk (AS Aa (fun c1=>?_) (fun c1=>?_)))))))))))))))
 ·omega
 refine Au (Bq (Y AE (Ac G (Cw (Am (Ab fun _ G=>Y Aa (Cs [0] 2 [_,_] (hob:=(Ag)) (hF:=D8 j h0 h) (hn':=B7 rfl rfl) (h:=Aq (AT am_ze330) (Ar _ true [_,_] am_in330 am_cl330 (h:=Ac G (Ab fun _ G=>Y (An 1 am_fi330_1 am_cl9) (Y (Ao am_ag9) (Ay (hF:=QJ (by omega) hA) (h:=Y Aa (Y AH (Y AH (Y Ad (Y Ad (Ac G (Aj (BW (tbs [(0,0),(1,1),(2,3),(3,7),(4,15),(5,31),(6,63),(7,127),(8,255),(9,511),(10,1023),(11,2047),(12,4095),(13,8191),(14,16383),(15,32767),(14,16383),(17,81919),(18,262143),(19,524287)]) 20 fun _ G=>Ak (An 0 am_fi330_0 am_cl3) (Ak (Ao am_ag3) (Ak Bn (QG Aa (fun c6=>?_) (fun c6=>?_)))))))))))))))))))))))))
 ·omega
 refine Ak Aa (Ak (Xo un_if239) (Ak AE (Ak Aa (Ak (An 1 am_fi330_1 am_cl9) (Ak (Ao am_ag9) (Ak (CB am_el9 am_un9) (Ak Be (Ak AE (Mq Aa (fun c7=>?_) (fun c7=>?_))))))))))
 ·omega
 refine Ak Aa (Cc (hF:=Rh (by omega) (by omega)) (h:=Ak (An 1 am_fi330_1 am_cl9) (Ak (Ao am_ag9) (Ak Kc (Ak AE (B3 [_,_,_] (h:=Ac G (Bh (fun c8=>?_) (fun c8=>?_)))))))))
 ·contradiction
 refine Am (Ab fun _ G=>Y Aa (Y AP (Y (An 1 am_fi326_1 am_cl3) (Y (Ao am_ag3) (Y Ax (Y AP (Y (An 1 am_fi326_1 am_cl3) (Ar _ true [_,_] am_in3 am_cl3 (h:=Ac G (Ab fun _ G=>Y Aa (Y Aa (Y BC (Y Ad (Ac G (Ai (D9 [0] (B5 (h:=BZ)) leads1 (⟨?_,?_⟩)))))))))))))))))
 all_goals first | rfl | (rw [Int.one_mul])
theorem RL {tk:List Tk} {v2 v3 v4 v5 v6 v7 v8 v9 v10 v11 v12 v13 v14 v15 v16 v17 v18 v19 v20 v21:Value} (j:Int) (h0:0≤j) (hj:j≤10000) {n0 n1 n2:Int} (hn:∀ q < 3,∃ t l c,tk[(j+(q:Nat)).toNat]?= some ⟨2,t,l,c⟩∧FR t (([n0,n1,n2]:List Int).getD q 0)):FunR Tryz.prog 216 [.adr 0 0 0, .als 1 0 3] [(0,⟨false,328,22,[[.sh 4 (tk.map tkC),iL (j), .lit v2, .lit v3, .lit v4, .lit v5, .lit v6, .lit v7, .lit v8, .lit v9, .lit v10, .lit v11, .lit v12, .lit v13, .lit v14, .lit v15, .lit v16, .lit v17, .lit v18, .lit v19, .lit v20, .lit v21]],true⟩),(1,⟨true,334,1,[[.adr 0 0 5],[.adr 0 0 6],[.adr 0 0 7]],false⟩)] 2 (AI (.tup []) [(0,⟨false,328,22,[[.sh 4 (tk.map tkC),iL (j+3), .lit v2, .lit v3, .lit v4,iL n0,iL n1,iL n2, .lit v8, .lit v9, .lit v10, .lit v11, .lit v12, .lit v13, .lit v14, .lit v15, .lit v16, .lit v17, .lit v18, .lit v19, .lit v20, .lit v21]],true⟩),(1,⟨true,334,1,[[.adr 0 0 5],[.adr 0 0 6],[.adr 0 0 7]],false⟩)]):=by
 refine FunR.of (nt:=17) (rs:=[]) Tryz.func216 rfl rfl rfl rfl rfl (Ab fun _ G=>Y Aa (Y (Fq am_el416) (Y Aa (Ac G (Ev.block (AC (ι:={k:Nat // k≤3}) [0,1] [0,6,7] (fun ⟨k,_⟩=>[(8,iL (k:Int))]) (fun ⟨k,_⟩=>[(0,⟨false,328,22,[[.sh 4 ((tk).map tkC),iL (j+(k:Nat)), .lit v2, .lit v3, .lit v4, .lit (bif Nat.ble k 0 then v5 else .int .i64 n0), .lit (bif Nat.ble k 1 then v6 else .int .i64 n1), .lit (bif Nat.ble k 2 then v7 else .int .i64 n2), .lit v8, .lit v9, .lit v10, .lit v11, .lit v12, .lit v13, .lit v14, .lit v15, .lit v16, .lit v17, .lit v18, .lit v19, .lit v20, .lit v21]],true⟩),(1,⟨true,334,1,[[.adr 0 0 5],[.adr 0 0 6],[.adr 0 0 7]],false⟩)]) (fun ⟨k,_⟩=>3 - k) ⟨0,Nat.zero_le _⟩ (.c (.c (.c .n))) (Ag (he:=(EW (congrArg (fun z=>iL z) (by omega)) rfl)) (h:=(Bd))) (Ae) ?_))))));rintro ⟨k,hk⟩ R0 hR0;dsimp only [cA,nA,lC,lN]
 obtain rfl | rfl | rfl | rfl:k=0∨k=1∨k=2∨k=3:=by omega
 ·obtain ⟨t,l,c,hx,hN⟩:=hn 0 (by decide);refine Ab fun _ G=>Y As (Ac G (AG (fun c1=>?_) (fun c1=>?_)))
  ·refine Aj (Ev.block (Ab fun _ G=>Y (BT am_el416 am_cl334) (Y (Ao am_ag334) (Y Ad (Ac G (Ah fun _ G=>Y Aa (Y Aa (Cs [0] 2 [_,_] (hob:=(Ag)) (hF:=Do _ (by omega) (by omega) hx hN) (hn':=B7 rfl rfl) (h:=Y AP (Ar _ true [_] am_in3 am_cl3 (h:=Ac G ?_)))))))))));show Ev _ _ _ _;refine Ah fun _ G=>Y Ax (Y Aa (Ac G (hR0 _ _ (A4 [0,1] [0,6,7] ⟨1,by omega⟩ ?_ (Ag (he:=(EW (congrArg (fun z=>iL z) (by omega)) rfl)) (h:=(Bd))) (Ae) (.c (.c (.c .n)))))));skip;all_goals (dsimp only;omega)
  omega
 ·obtain ⟨t,l,c,hx,hN⟩:=hn 1 (by decide);refine Ab fun _ G=>Y As (Ac G (AG (fun c2=>?_) (fun c2=>?_)))
  ·refine Aj (Ev.block (Ab fun _ G=>Y (BT am_el416 am_cl334) (Y (Ao am_ag334) (Y Ad (Ac G (Ah fun _ G=>Y Aa (Y Aa (Cs [0] 2 [_,_] (hob:=(Ag)) (hF:=Do _ (by omega) (by omega) hx hN) (hn':=B7 rfl rfl) (h:=Y AP (Ar _ true [_] am_in3 am_cl3 (h:=Ac G ?_)))))))))));show Ev _ _ _ _;refine Ah fun _ G=>Y Ax (Y Aa (Ac G (hR0 _ _ (A4 [0,1] [0,6,7] ⟨2,by omega⟩ ?_ (Ag (he:=(EW (congrArg (fun z=>iL z) (by omega)) rfl)) (h:=(Bd))) (Ae) (.c (.c (.c .n)))))));skip;all_goals (dsimp only;omega)
  omega
 ·obtain ⟨t,l,c,hx,hN⟩:=hn 2 (by decide);refine Ab fun _ G=>Y As (Ac G (AG (fun c3=>?_) (fun c3=>?_)))
  ·refine Aj (Ev.block (Ab fun _ G=>Y (BT am_el416 am_cl334) (Y (Ao am_ag334) (Y Ad (Ac G (Ah fun _ G=>Y Aa (Y Aa (Cs [0] 2 [_,_] (hob:=(Ag)) (hF:=Do _ (by omega) (by omega) hx hN) (hn':=B7 rfl rfl) (h:=Y AP (Ar _ true [_] am_in3 am_cl3 (h:=Ac G ?_)))))))))));show Ev _ _ _ _;refine Ah fun _ G=>Y Ax (Y Aa (Ac G (hR0 _ _ (A4 [0,1] [0,6,7] ⟨3,by omega⟩ ?_ (Ag (he:=(EW (congrArg (fun z=>iL z) (by omega)) rfl)) (h:=(Bd))) (Ae) (.c (.c (.c .n)))))));skip;all_goals (dsimp only;omega)
  omega
 skip;refine Ab fun _ G=>Y As (Ac G (AG (fun c4=>?_) (fun c4=>?_)))
 ·omega
 refine AA (hR0 _ _ ?_)
 show F8 _ _ _ _ Exit.ret _
 refine GG [0,1] (B5 (h:=(CO (h:=BZ)))) leads2 (⟨?_,?_⟩);all_goals rfl
theorem RM {tk:List Tk} {v2 v3 v4 v5 v6 v7 v8 v9 v10 v11 v12 v13 v14 v15 v16 v17 v18 v19 v20 v21:Value} (j:Int) (h0:0≤j) (hj:j≤10000) {n0 n1 n2 n3 n4 n5 n6 n7 n8:Int} (hn:∀ q < 9,∃ t l c,tk[(j+(q:Nat)).toNat]?= some ⟨2,t,l,c⟩∧FR t (([n0,n1,n2,n3,n4,n5,n6,n7,n8]:List Int).getD q 0)):FunR Tryz.prog 216 [.adr 0 0 0, .als 1 0 9] [(0,⟨false,328,22,[[.sh 4 (tk.map tkC),iL (j), .lit v2, .lit v3, .lit v4, .lit v5, .lit v6, .lit v7, .lit v8, .lit v9, .lit v10, .lit v11, .lit v12, .lit v13, .lit v14, .lit v15, .lit v16, .lit v17, .lit v18, .lit v19, .lit v20, .lit v21]],true⟩),(1,⟨true,334,1,[[.adr 0 0 12],[.adr 0 0 13],[.adr 0 0 14],[.adr 0 0 15],[.adr 0 0 16],[.adr 0 0 17],[.adr 0 0 18],[.adr 0 0 19],[.adr 0 0 20]],false⟩)] 2 (AI (.tup []) [(0,⟨false,328,22,[[.sh 4 (tk.map tkC),iL (j+9), .lit v2, .lit v3, .lit v4, .lit v5, .lit v6, .lit v7, .lit v8, .lit v9, .lit v10, .lit v11,iL n0,iL n1,iL n2,iL n3,iL n4,iL n5,iL n6,iL n7,iL n8, .lit v21]],true⟩),(1,⟨true,334,1,[[.adr 0 0 12],[.adr 0 0 13],[.adr 0 0 14],[.adr 0 0 15],[.adr 0 0 16],[.adr 0 0 17],[.adr 0 0 18],[.adr 0 0 19],[.adr 0 0 20]],false⟩)]):=by
 refine FunR.of (nt:=17) (rs:=[]) Tryz.func216 rfl rfl rfl rfl rfl (Ab fun _ G=>Y Aa (Y (Fq am_el416) (Y Aa (Ac G (Ev.block (AC (ι:={k:Nat // k≤9}) [0,1] [0,6,7] (fun ⟨k,_⟩=>[(8,iL (k:Int))]) (fun ⟨k,_⟩=>[(0,⟨false,328,22,[[.sh 4 ((tk).map tkC),iL (j+(k:Nat)), .lit v2, .lit v3, .lit v4, .lit v5, .lit v6, .lit v7, .lit v8, .lit v9, .lit v10, .lit v11, .lit (bif Nat.ble k 0 then v12 else .int .i64 n0), .lit (bif Nat.ble k 1 then v13 else .int .i64 n1), .lit (bif Nat.ble k 2 then v14 else .int .i64 n2), .lit (bif Nat.ble k 3 then v15 else .int .i64 n3), .lit (bif Nat.ble k 4 then v16 else .int .i64 n4), .lit (bif Nat.ble k 5 then v17 else .int .i64 n5), .lit (bif Nat.ble k 6 then v18 else .int .i64 n6), .lit (bif Nat.ble k 7 then v19 else .int .i64 n7), .lit (bif Nat.ble k 8 then v20 else .int .i64 n8), .lit v21]],true⟩),(1,⟨true,334,1,[[.adr 0 0 12],[.adr 0 0 13],[.adr 0 0 14],[.adr 0 0 15],[.adr 0 0 16],[.adr 0 0 17],[.adr 0 0 18],[.adr 0 0 19],[.adr 0 0 20]],false⟩)]) (fun ⟨k,_⟩=>9 - k) ⟨0,Nat.zero_le _⟩ (.c (.c (.c .n))) (Ag (he:=(EW (congrArg (fun z=>iL z) (by omega)) rfl)) (h:=(Bd))) (Ae) ?_))))));rintro ⟨k,hk⟩ R0 hR0;dsimp only [cA,nA,lC,lN]
 obtain rfl | rfl | rfl | rfl | rfl | rfl | rfl | rfl | rfl | rfl:k=0∨k=1∨k=2∨k=3∨k=4∨k=5∨k=6∨k=7∨k=8∨k=9:=by omega
 ·obtain ⟨t,l,c,hx,hN⟩:=hn 0 (by decide);refine Ab fun _ G=>Y As (Ac G (AG (fun c1=>?_) (fun c1=>?_)))
  ·refine Aj (Ev.block (Ab fun _ G=>Y (BT am_el416 am_cl334) (Y (Ao am_ag334) (Y Ad (Ac G (Ah fun _ G=>Y Aa (Y Aa (Cs [0] 2 [_,_] (hob:=(Ag)) (hF:=Do _ (by omega) (by omega) hx hN) (hn':=B7 rfl rfl) (h:=Y AP (Ar _ true [_] am_in3 am_cl3 (h:=Ac G ?_)))))))))));show Ev _ _ _ _;refine Ah fun _ G=>Y Ax (Y Aa (Ac G (hR0 _ _ (A4 [0,1] [0,6,7] ⟨1,by omega⟩ ?_ (Ag (he:=(EW (congrArg (fun z=>iL z) (by omega)) rfl)) (h:=(Bd))) (Ae) (.c (.c (.c .n)))))));skip;all_goals (dsimp only;omega)
  omega
 ·obtain ⟨t,l,c,hx,hN⟩:=hn 1 (by decide);refine Ab fun _ G=>Y As (Ac G (AG (fun c2=>?_) (fun c2=>?_)))
  ·refine Aj (Ev.block (Ab fun _ G=>Y (BT am_el416 am_cl334) (Y (Ao am_ag334) (Y Ad (Ac G (Ah fun _ G=>Y Aa (Y Aa (Cs [0] 2 [_,_] (hob:=(Ag)) (hF:=Do _ (by omega) (by omega) hx hN) (hn':=B7 rfl rfl) (h:=Y AP (Ar _ true [_] am_in3 am_cl3 (h:=Ac G ?_)))))))))));show Ev _ _ _ _;refine Ah fun _ G=>Y Ax (Y Aa (Ac G (hR0 _ _ (A4 [0,1] [0,6,7] ⟨2,by omega⟩ ?_ (Ag (he:=(EW (congrArg (fun z=>iL z) (by omega)) rfl)) (h:=(Bd))) (Ae) (.c (.c (.c .n)))))));skip;all_goals (dsimp only;omega)
  omega
 ·obtain ⟨t,l,c,hx,hN⟩:=hn 2 (by decide);refine Ab fun _ G=>Y As (Ac G (AG (fun c3=>?_) (fun c3=>?_)))
  ·refine Aj (Ev.block (Ab fun _ G=>Y (BT am_el416 am_cl334) (Y (Ao am_ag334) (Y Ad (Ac G (Ah fun _ G=>Y Aa (Y Aa (Cs [0] 2 [_,_] (hob:=(Ag)) (hF:=Do _ (by omega) (by omega) hx hN) (hn':=B7 rfl rfl) (h:=Y AP (Ar _ true [_] am_in3 am_cl3 (h:=Ac G ?_)))))))))));show Ev _ _ _ _;refine Ah fun _ G=>Y Ax (Y Aa (Ac G (hR0 _ _ (A4 [0,1] [0,6,7] ⟨3,by omega⟩ ?_ (Ag (he:=(EW (congrArg (fun z=>iL z) (by omega)) rfl)) (h:=(Bd))) (Ae) (.c (.c (.c .n)))))));skip;all_goals (dsimp only;omega)
  omega
 ·obtain ⟨t,l,c,hx,hN⟩:=hn 3 (by decide);refine Ab fun _ G=>Y As (Ac G (AG (fun c4=>?_) (fun c4=>?_)))
  ·refine Aj (Ev.block (Ab fun _ G=>Y (BT am_el416 am_cl334) (Y (Ao am_ag334) (Y Ad (Ac G (Ah fun _ G=>Y Aa (Y Aa (Cs [0] 2 [_,_] (hob:=(Ag)) (hF:=Do _ (by omega) (by omega) hx hN) (hn':=B7 rfl rfl) (h:=Y AP (Ar _ true [_] am_in3 am_cl3 (h:=Ac G ?_)))))))))));show Ev _ _ _ _;refine Ah fun _ G=>Y Ax (Y Aa (Ac G (hR0 _ _ (A4 [0,1] [0,6,7] ⟨4,by omega⟩ ?_ (Ag (he:=(EW (congrArg (fun z=>iL z) (by omega)) rfl)) (h:=(Bd))) (Ae) (.c (.c (.c .n)))))));skip;all_goals (dsimp only;omega)
  omega
 ·obtain ⟨t,l,c,hx,hN⟩:=hn 4 (by decide);refine Ab fun _ G=>Y As (Ac G (AG (fun c5=>?_) (fun c5=>?_)))
  ·refine Aj (Ev.block (Ab fun _ G=>Y (BT am_el416 am_cl334) (Y (Ao am_ag334) (Y Ad (Ac G (Ah fun _ G=>Y Aa (Y Aa (Cs [0] 2 [_,_] (hob:=(Ag)) (hF:=Do _ (by omega) (by omega) hx hN) (hn':=B7 rfl rfl) (h:=Y AP (Ar _ true [_] am_in3 am_cl3 (h:=Ac G ?_)))))))))));show Ev _ _ _ _;refine Ah fun _ G=>Y Ax (Y Aa (Ac G (hR0 _ _ (A4 [0,1] [0,6,7] ⟨5,by omega⟩ ?_ (Ag (he:=(EW (congrArg (fun z=>iL z) (by omega)) rfl)) (h:=(Bd))) (Ae) (.c (.c (.c .n)))))));skip;all_goals (dsimp only;omega)
  omega
 ·obtain ⟨t,l,c,hx,hN⟩:=hn 5 (by decide);refine Ab fun _ G=>Y As (Ac G (AG (fun c6=>?_) (fun c6=>?_)))
  ·refine Aj (Ev.block (Ab fun _ G=>Y (BT am_el416 am_cl334) (Y (Ao am_ag334) (Y Ad (Ac G (Ah fun _ G=>Y Aa (Y Aa (Cs [0] 2 [_,_] (hob:=(Ag)) (hF:=Do _ (by omega) (by omega) hx hN) (hn':=B7 rfl rfl) (h:=Y AP (Ar _ true [_] am_in3 am_cl3 (h:=Ac G ?_)))))))))));show Ev _ _ _ _;refine Ah fun _ G=>Y Ax (Y Aa (Ac G (hR0 _ _ (A4 [0,1] [0,6,7] ⟨6,by omega⟩ ?_ (Ag (he:=(EW (congrArg (fun z=>iL z) (by omega)) rfl)) (h:=(Bd))) (Ae) (.c (.c (.c .n)))))));skip;all_goals (dsimp only;omega)
  omega
 ·obtain ⟨t,l,c,hx,hN⟩:=hn 6 (by decide);refine Ab fun _ G=>Y As (Ac G (AG (fun c7=>?_) (fun c7=>?_)))
  ·refine Aj (Ev.block (Ab fun _ G=>Y (BT am_el416 am_cl334) (Y (Ao am_ag334) (Y Ad (Ac G (Ah fun _ G=>Y Aa (Y Aa (Cs [0] 2 [_,_] (hob:=(Ag)) (hF:=Do _ (by omega) (by omega) hx hN) (hn':=B7 rfl rfl) (h:=Y AP (Ar _ true [_] am_in3 am_cl3 (h:=Ac G ?_)))))))))));show Ev _ _ _ _;refine Ah fun _ G=>Y Ax (Y Aa (Ac G (hR0 _ _ (A4 [0,1] [0,6,7] ⟨7,by omega⟩ ?_ (Ag (he:=(EW (congrArg (fun z=>iL z) (by omega)) rfl)) (h:=(Bd))) (Ae) (.c (.c (.c .n)))))));skip;all_goals (dsimp only;omega)
  omega
 ·obtain ⟨t,l,c,hx,hN⟩:=hn 7 (by decide);refine Ab fun _ G=>Y As (Ac G (AG (fun c8=>?_) (fun c8=>?_)))
  ·refine Aj (Ev.block (Ab fun _ G=>Y (BT am_el416 am_cl334) (Y (Ao am_ag334) (Y Ad (Ac G (Ah fun _ G=>Y Aa (Y Aa (Cs [0] 2 [_,_] (hob:=(Ag)) (hF:=Do _ (by omega) (by omega) hx hN) (hn':=B7 rfl rfl) (h:=Y AP (Ar _ true [_] am_in3 am_cl3 (h:=Ac G ?_)))))))))));show Ev _ _ _ _;refine Ah fun _ G=>Y Ax (Y Aa (Ac G (hR0 _ _ (A4 [0,1] [0,6,7] ⟨8,by omega⟩ ?_ (Ag (he:=(EW (congrArg (fun z=>iL z) (by omega)) rfl)) (h:=(Bd))) (Ae) (.c (.c (.c .n)))))));skip;all_goals (dsimp only;omega)
  omega
 ·obtain ⟨t,l,c,hx,hN⟩:=hn 8 (by decide);refine Ab fun _ G=>Y As (Ac G (AG (fun c9=>?_) (fun c9=>?_)))
  ·refine Aj (Ev.block (Ab fun _ G=>Y (BT am_el416 am_cl334) (Y (Ao am_ag334) (Y Ad (Ac G (Ah fun _ G=>Y Aa (Y Aa (Cs [0] 2 [_,_] (hob:=(Ag)) (hF:=Do _ (by omega) (by omega) hx hN) (hn':=B7 rfl rfl) (h:=Y AP (Ar _ true [_] am_in3 am_cl3 (h:=Ac G ?_)))))))))));show Ev _ _ _ _;refine Ah fun _ G=>Y Ax (Y Aa (Ac G (hR0 _ _ (A4 [0,1] [0,6,7] ⟨9,by omega⟩ ?_ (Ag (he:=(EW (congrArg (fun z=>iL z) (by omega)) rfl)) (h:=(Bd))) (Ae) (.c (.c (.c .n)))))));skip;all_goals (dsimp only;omega)
  omega
 skip;refine Ab fun _ G=>Y As (Ac G (AG (fun c10=>?_) (fun c10=>?_)))
 ·omega
 refine AA (hR0 _ _ ?_)
 show F8 _ _ _ _ Exit.ret _
 refine GG [0,1] (B5 (h:=(CO (h:=BZ)))) leads2 (⟨?_,?_⟩);all_goals rfl
open Go in
theorem RF (cap:Array Value) (hc:cap.size=3):TQ Tryz.prog { target:= .fn (.func 211) cap,args:= #[] }:=by
 obtain ⟨x,y,z,rfl⟩:∃ x y z,cap= #[x,y,z]:=by
  rcases cap with ⟨_ | ⟨x,_ | ⟨y,_ | ⟨z,_ | ⟨u,l⟩⟩⟩⟩⟩ <;> simp at hc
  exact ⟨x,y,z,rfl⟩
 refine ⟨.func 211, #[x,y,z],211, #[x,y,z],rfl,fun w=>?_,fun w=>?_⟩
 ·exact Iz (P:=Tryz.prog) (g:=211) ⟨_,Tryz.func211,rfl,rfl⟩ _ w
 refine (callsDIn_of_wpSIn (R:=fun e u' w'=>e= .returned (.tuple #[])∧u'= .returning∧w'=w) Tryz.func211 rfl trivial fun c₀ cs hu=>?_).mono ?_
 ·apply wpSIn_seq
  apply wpSIn_region
  simp [wpOpsSIn,go_sem,recoverD,hu,Tryz.ntmps211,Exit.thenS]
  apply wpSIn_seq
  apply wpSIn_region
  simp [wpOpsSIn,go_sem,recoverD,hu,Tryz.ntmps211,Exit.thenS]
  refine wpSIn_cond (t:=false) (by simp [Act.eval,Array.replicate]) ?_;simp only [Bool.false_eq_true,if_false];refine wpSIn_of_wpIn rfl (wpIn_skip ?_)
  cases c₀
  simp_all [bodyPostS,results,Tryz.results211]
 rintro e u' w' ⟨rfl,rfl,rfl⟩;exact ⟨⟨_,rfl⟩,rfl,rfl⟩
theorem RN {tk:List Tk} {v2 v3 v4 v5 v6 v7 v8 v9 v10 v12 v13 v14 v15 v16 v17 v18 v19 v20:Value} (j:Int) (h0:0≤j) (hj:j≤1000) {n0 n1 n2 n3 n4 n5 n6 n7 n8:Int} {l c lE cE aT lT cT:Int} {tE tT:List UInt8} (h:tk[j.toNat]?= some ⟨1,[114,117,108,101],l,c⟩)
 (hn:∀ q < 9,∃ t l c,tk[(j+1+(q:Nat)).toNat]?= some ⟨2,t,l,c⟩∧FR t (([n0,n1,n2,n3,n4,n5,n6,n7,n8]:List Int).getD q 0)) (hE:tk[(j+1+9).toNat]?= some ⟨4,tE,lE,cE⟩) (hT:tk[(j+1+9+1).toNat]?= some ⟨aT,tT,lT,cT⟩) (ha:aT≠4) :
 FunR Tryz.prog 218 [.adr 0 0 0] [(0,⟨false,328,22,[[.sh 4 (tk.map tkC),iL (j), .lit v2, .lit v3, .lit v4, .lit v5, .lit v6, .lit v7, .lit v8, .lit v9, .lit v10, .lit (.slice none 0 0), .lit v12, .lit v13, .lit v14, .lit v15, .lit v16, .lit v17, .lit v18, .lit v19, .lit v20,bL false]],true⟩)] 1 (AI (.tup []) [(0,⟨false,328,22,[[.sh 4 (tk.map tkC),iL (j+1+9+1), .lit v2, .lit v3, .lit v4, .lit v5, .lit v6, .lit v7, .lit v8, .lit v9, .lit v10, .lit (.slice none 0 0),iL n0,iL n1,iL n2,iL n3,iL n4,iL n5,iL n6,iL n7,iL n8,bL true]],true⟩)]):=by
 refine FunR.of (nt:=264) (rs:=[]) Tryz.func218 rfl rfl rfl rfl rfl (Ab fun _ k=>Y Aa (Y AP (Y (An 0 am_fi328_0 am_cl326) (Cs [0] 1 [_] (hob:=(Ag)) (hF:=D8 j h0 h) (hn':=B7 rfl rfl) (h:=Aq (AT am_ze330) (Ar _ true [_] am_in330 am_cl330 (h:=Ac k (Ab fun _ k=>Y Aa (Y AP (Y (An 2 am_fi328_1 am_cl47) (Y (An 11 am_fi47_4 am_cl43) (Y (Ao am_ag43) (Y (DX am_el43) (Y Ad (Ac k (Aj (Ab fun _ k=>Y (An 0 am_fi330_0 am_cl3) (Y (Ao am_ag3) (Y Bn (Dc Aa (fun c1=>?_) (fun c1=>?_)))))))))))))))))))))
 ·omega
 refine Y (An 1 am_fi330_1 am_cl9) (Y (Ao am_ag9) (Y DY (AS Aa (fun c2=>?_) (fun c2=>?_))))
 ·refine Y Aa (Y AP (Y (An 21 am_fi328_2 am_cl4) (Y (Ao am_ag4) (Y AF (Y AE (Y Aa (Y (An 1 am_fi330_1 am_cl9) (Y (Ao am_ag9) (Y DY (AS Aa (fun c3=>?_) (fun c3=>?_)))))))))))
  ·contradiction
  refine Au (Y AE (Y AE (Ac k (Cw (Am (Ab fun _ k=>Y Aa (Y AP (Y (An 2 am_fi328_1 am_cl47) (Y Ad (Ac k (Ab fun _ k=>Y Aa (Y AP (Y (An 0 am_fi328_0 am_cl326) (Y (An 1 am_fi326_1 am_cl3) (Y (Ao am_ag3) (Y Ax (Y AP (Y (An 0 am_fi328_0 am_cl326) (Y (An 1 am_fi326_1 am_cl3) (Ar _ true [_] am_in3 am_cl3 (h:=Ac k (Aj (Ab fun _ k=>Y (An 1 am_fi330_1 am_cl9) (Y (Ao am_ag9) (Ac k (Ev.block (Ab fun _ k=>Y DY (Y Ad (Ac k (Az (fun c4=>?_) (fun c4=>?_)))))))))))))))))))))))))))))))
  ·contradiction
  refine Ab fun _ k=>Y DY (Y Ad (Ac k (Az (fun c5=>?_) (fun c5=>?_))))
  ·contradiction
  refine Ab fun _ k=>Y DY (Y Ad (Ac k (Az (fun c6=>?_) (fun c6=>?_))))
  ·refine Ab fun _ k=>Y Aa (Y AP (Y (An 21 am_fi328_2 am_cl4) (Ar _ true [_] am_in4 am_cl4 (h:=Ac k (Ab fun _ k=>Y Aa (Y AP (Y (An 12 am_fi47_5 am_cl45) (Y Ad (Ac k (CP (tbs [(0,0),(1,1),(2,3),(0,0),(4,8),(5,24),(0,0),(7,64),(8,192),(0,0),(10,512),(11,1536),(0,0),(13,4096),(14,12288),(0,0),(16,32768),(17,98304),(0,0),(19,262144),(20,786432),(0,0),(22,2097152),(23,6291456),(0,0),(25,16777216),(26,50331648),(0,0),(28,134217728),(29,402653184),(30,1073741816),(31,2147483647)]) 31 fun _ k=>Ak Aa (Ak AP (Ak (An 0 am_fi328_0 am_cl326) (Ak Aa (Ak AP (Ak (An 12 am_fi45_0 am_cl3) (Ak Aa (Ak AP (Ak (An 13 am_fi45_1 am_cl3) (Ak Aa (Ak AP (Ak (An 14 am_fi45_2 am_cl3) (Ak Aa (Ak AP (Ak (An 15 am_fi45_3 am_cl3) (Ak Aa (Ak AP (Ak (An 16 am_fi45_4 am_cl3) (Ak Aa (Ak AP (Ak (An 17 am_fi45_5 am_cl3) (Ak Aa (Ak AP (Ak (An 18 am_fi45_6 am_cl3) (Ak Aa (Ak AP (Ak (An 19 am_fi45_7 am_cl3) (Ak Aa (Ak AP (Ak (An 20 am_fi45_8 am_cl3) (FQ [_] (Bf [[_],[_],[_],[_],[_],[_],[_],[_],[_]] false am_el416 am_ze334 am_cl334) (h:=B3 [_,_,_] (h:=Cs [0,122] 126 [_,_,_] (hob:=(Ag (h:=(Bd)))) (hF:=RM (j+1) (by omega) (by omega) hn) (hn':=B7 rfl rfl) (h:=Ac k ?_)))))))))))))))))))))))))))))))))))))))))))
   show Ev _ _ _ _;refine Ah fun _ k=>Y Aa (Y AP (Y (An 0 am_fi328_0 am_cl326) (Cs [0] 126 [_,_,_] (hob:=(Ag)) (hF:=Pd (j+1+9) (j+1+9+1) (by omega) (by omega) (OF hE hT ha) hE) (hn':=B7 rfl rfl) (h:=Ac k ?_))))
   show F8 _ _ _ _ Exit.ret _
   refine GG [0] (B5 (h:=BZ)) leads1 (⟨?_,?_⟩);all_goals rfl
  contradiction
 contradiction
def akTs:List Tk:=[⟨1,[109,101,109,98,101,114],1,1⟩,⟨1,[109],1,8⟩,⟨2,[51,48],1,10⟩,⟨2,[50,48],1,13⟩,⟨2,[52,48],1,16⟩,⟨4,[],1,18⟩,⟨1,[114,117,108,101],2,1⟩,⟨2,[52,48],2,6⟩,⟨2,[49],2,9⟩,⟨2,[49,48],2,11⟩,⟨2,[55],2,14⟩,⟨2,[55],2,16⟩,⟨2,[49,48],2,18⟩,⟨2,[51],2,21⟩,⟨2,[50],2,23⟩,⟨2,[49,48,48],2,25⟩,⟨4,[],2,28⟩,⟨5,[],3,1⟩]
theorem akToks_eq:akToks=akTs:=rfl
theorem tokens2_fun:Fun Tryz.prog 210 [sL akText] (AI (.tup [.sh 4 (akTs.map tkC), .agg [iL 0,iL 0],iL 0]) []):=akToks_eq ▸ tokens_fun
theorem F0 {u:Nat} (h:u < 10):Go.Lib.itoa (u:Int)=[UInt8.ofNat (48+u)]:=by
 rw [Go.Lib.itoa,if_neg (by omega)]
 show Go.Lib.decDigits u=_
 rw [Go.Lib.decDigits,dif_pos h]
theorem Ye {u:Nat} (h:¬ u < 10):Go.Lib.decDigits u=Go.Lib.decDigits (u / 10) ++ [UInt8.ofNat (48+u % 10)]:=by
 conv=>lhs;rw [Go.Lib.decDigits,dif_neg h]
theorem H8 {u:Nat} (h:¬ u < 10):Go.Lib.itoa (u:Int)=Go.Lib.itoa ((u / 10:Nat):Int) ++ [UInt8.ofNat (48+u % 10)]:=by
 rw [Go.Lib.itoa,if_neg (by omega),Go.Lib.itoa,if_neg (by omega)];exact Ye h
theorem numT1:FR [49] 1:=⟨by decide,by decide,by decide,by decide,by exact F0 (u:=1) (by decide)⟩
theorem numT2:FR [50] 2:=⟨by decide,by decide,by decide,by decide,by exact F0 (u:=2) (by decide)⟩
theorem numT3:FR [51] 3:=⟨by decide,by decide,by decide,by decide,by exact F0 (u:=3) (by decide)⟩
theorem numT7:FR [55] 7:=⟨by decide,by decide,by decide,by decide,by exact F0 (u:=7) (by decide)⟩
theorem numT10:FR [49,48] 10:=⟨by decide,by decide,by decide,by decide,by exact (H8 (u:=10) (by decide)).trans (congrArg (· ++ _) (F0 (u:=1) (by decide)))⟩
theorem numT20:FR [50,48] 20:=⟨by decide,by decide,by decide,by decide,by exact (H8 (u:=20) (by decide)).trans (congrArg (· ++ _) (F0 (u:=2) (by decide)))⟩
theorem numT30:FR [51,48] 30:=⟨by decide,by decide,by decide,by decide,by exact (H8 (u:=30) (by decide)).trans (congrArg (· ++ _) (F0 (u:=3) (by decide)))⟩
theorem numT40:FR [52,48] 40:=⟨by decide,by decide,by decide,by decide,by exact (H8 (u:=40) (by decide)).trans (congrArg (· ++ _) (F0 (u:=4) (by decide)))⟩
theorem numT100:FR [49,48,48] 100:=⟨by decide,by decide,by decide,by decide,by exact (H8 (u:=100) (by decide)).trans (congrArg (· ++ _) ((H8 (u:=10) (by decide)).trans (congrArg (· ++ _) (F0 (u:=1) (by decide)))))⟩
def akDet:List AV:=[sL [109], .lit (.slice none 0 0), .lit (.slice none 0 0),iL 30,iL 20,iL 40, .lit (.slice none 0 0), .lit (.slice none 0 0), .lit (.slice none 0 0), .lit (.slice none 0 0),iL 40,iL 1,iL 10,iL 7,iL 7,iL 10,iL 3,iL 2,iL 100]
theorem akN3:∀ q < 3,∃ t l c,akTs[((2:Int)+(q:Nat)).toNat]?= some ⟨2,t,l,c⟩∧FR t (([30,20,40]:List Int).getD q 0):=by
 intro q hq
 obtain rfl | rfl | rfl:q=0∨q=1∨q=2:=by omega
 ·exact ⟨_,_,_,rfl,numT30⟩
 ·exact ⟨_,_,_,rfl,numT20⟩
 exact ⟨_,_,_,rfl,numT40⟩
theorem akN9:∀ q < 9,∃ t l c,akTs[((7:Int)+(q:Nat)).toNat]?= some ⟨2,t,l,c⟩∧FR t (([40,1,10,7,7,10,3,2,100]:List Int).getD q 0):=by
 intro q hq
 obtain rfl | rfl | rfl | rfl | rfl | rfl | rfl | rfl | rfl:q=0∨q=1∨q=2∨q=3∨q=4∨q=5∨q=6∨q=7∨q=8:=by omega
 ·exact ⟨_,_,_,rfl,numT40⟩
 ·exact ⟨_,_,_,rfl,numT1⟩
 ·exact ⟨_,_,_,rfl,numT10⟩
 ·exact ⟨_,_,_,rfl,numT7⟩
 ·exact ⟨_,_,_,rfl,numT7⟩
 ·exact ⟨_,_,_,rfl,numT10⟩
 ·exact ⟨_,_,_,rfl,numT3⟩
 ·exact ⟨_,_,_,rfl,numT2⟩
 exact ⟨_,_,_,rfl,numT100⟩
theorem read_fun:Fun Tryz.prog 107 [sL akText] (AI (.tup [.agg akDet, .agg [iL 0,iL 0],iL 0]) []):=by
 refine Fun.ofD (nt:=105) (rs:=[.cell 2 47, .cell 3 75, .cell 4 27]) Tryz.func107 rfl rfl rfl rfl rfl (EvD.split (Ah fun _ z=>Aq (AT am_ze47) (Aq (AT am_ze75) (Aq (AT am_ze27) (Ac z ?_)))));show EvD _ _ _ _;refine EvD.split (Ah fun _ z=>Y Aa (Ay (hF:=tokens2_fun) (h:=Y Aa (Y AH (Y AH (Y AH (Y Ad (Ar _ true [_,_] am_in75 am_cl75 (h:=Ar _ true [_,_] am_in27 am_cl27 (h:=Ac z ?_))))))))));show EvD _ _ _ _;refine EvD.split (Ab fun _ z=>Y (Ao am_ag27) (Y Bn (Ac z (Bh (fun c1=>?_) (fun c1=>?_)))))
 ·omega
 refine Am (EvD.deferS (l0:=[_]) (m:=3) rfl rfl rfl rfl RF fun _ z=>(Y EE (Af (z _ ⟨_,rfl,rfl,?_⟩))));refine EvD.of (Ab fun _ z=>Y Aa (Y (Bg _ am_ze326 am_pl326) (Y (Bg _ am_ze328 am_pl328) (Aq (Bo _ true) (Y Ad (Ac z (Ab fun _ z=>Y Aa (Y AP (Y (An 0 am_fi328_0 am_cl326) (Cs [3] 4 [_,_,_,_] (hob:=(Ag)) (hF:=Ny _ _ (by decide) (by decide) (Us (a:=1) rfl (by decide))) (hn':=B7 rfl rfl) (h:=Ac z (Aj (Ab fun _ z=>Y Aa (Y AP (Y (An 0 am_fi328_0 am_cl326) (Cs [3] 4 [_,_,_,_] (hob:=(Ag)) (hF:=D8 _ (by decide) rfl) (hn':=B7 rfl rfl) (h:=Aq (AT am_ze330) (Ar _ true [_,_,_,_] am_in330 am_cl330 (h:=Ac z (Ab fun _ z=>Y (An 0 am_fi330_0 am_cl3) (Y (Ao am_ag3) (Y Bn (Dc Aa (fun c2=>?_) (fun c2=>?_))))))))))))))))))))))))
 ·omega
 refine Y (An 1 am_fi330_1 am_cl9) (Y (Ao am_ag9) (Y Kc (Y AE (Ac z (Bh (fun c3=>?_) (fun c3=>?_))))))
 ·contradiction
 refine Am (Ab fun _ z=>Y Aa (Y AP (Y (An 0 am_fi328_0 am_cl326) (Y (An 1 am_fi326_1 am_cl3) (Y (Ao am_ag3) (Y Ax (Y AP (Y (An 0 am_fi328_0 am_cl326) (Y (An 1 am_fi326_1 am_cl3) (Ar _ true [_,_,_,_] am_in3 am_cl3 (h:=Ac z (Ab fun _ z=>Y Aa (Y AP (Y (An 2 am_fi328_1 am_cl47) (Y (An 2 am_fi47_0 am_cl41) (Y Ad (Ac z (Ab fun _ z=>Y Aa (Y Aa (Y AP (Y (An 0 am_fi328_0 am_cl326) (Cs [3] 5 [_,_,_,_,_] (hob:=(Ag)) (hF:=Tl _ (by decide) (by decide) rfl) (hn':=B7 rfl rfl) (h:=Y AP (Y (An 2 am_fi41_0 am_cl9) (Ar _ true [_,_,_,_] am_in9 am_cl9 (h:=Ac z (BW (tbs [(0,0),(1,1),(2,3),(0,0),(4,8),(5,24),(0,0),(7,64),(8,192),(0,0),(10,512),(11,1536),(12,4088),(13,8191)]) 13 fun _ z=>Ak Aa (Ak AP (Ak (An 0 am_fi328_0 am_cl326) (Ak Aa (Ak AP (Ak (An 5 am_fi41_2 am_cl3) (Ak Aa (Ak AP (Ak (An 6 am_fi41_3 am_cl3) (Ak Aa (Ak AP (Ak (An 7 am_fi41_4 am_cl3) (FQ [_] (Bf [[_],[_],[_]] false am_el416 am_ze334 am_cl334) (h:=B3 [_,_,_,_,_,_] (h:=Cs [3,53] 57 [_,_,_,_,_,_] (hob:=(Ag (h:=(Bd)))) (hF:=RL _ (by decide) (by decide) akN3) (hn':=B7 rfl rfl) (h:=Ac z (Ab fun _ z=>Y Aa (Y AP (Y (An 0 am_fi328_0 am_cl326) (Cs [3] 57 [_,_,_,_,_,_] (hob:=(Ag)) (hF:=Pd _ _ (by decide) (by decide) (OF rfl rfl (by decide)) rfl) (hn':=B7 rfl rfl) (h:=Ac z (Aj (Ev.block (AC (ι:={k:Nat // k≤1}) [0,1,2,3] [2,3,4,6] (fun ⟨k,_⟩=>[]) (fun ⟨k,_⟩=>[(0,⟨false,47,19,[[.lit (.string ByteArray.empty), .lit (.slice none 0 0), .lit (.slice none 0 0),iL 0,iL 0,iL 0, .lit (.slice none 0 0), .lit (.slice none 0 0), .lit (.slice none 0 0), .lit (.slice none 0 0),iL 0,iL 0,iL 0,iL 0,iL 0,iL 0,iL 0,iL 0,iL 0]],true⟩),(1,⟨false,75,2,[[iL (0),iL (0)]],true⟩),(2,⟨false,27,1,[[iL (0)]],true⟩),(3,⟨false,328,22,[[.sh 4 ((akTs).map tkC),iL (bif Nat.beq k 0 then 6 else 17),sL [109], .lit (.slice none 0 0), .lit (.slice none 0 0),iL 30,iL 20,iL 40, .lit (.slice none 0 0), .lit (.slice none 0 0), .lit (.slice none 0 0), .lit (.slice none 0 0), .lit (bif Nat.beq k 0 then .int .i64 0 else .int .i64 40), .lit (bif Nat.beq k 0 then .int .i64 0 else .int .i64 1), .lit (bif Nat.beq k 0 then .int .i64 0 else .int .i64 10), .lit (bif Nat.beq k 0 then .int .i64 0 else .int .i64 7), .lit (bif Nat.beq k 0 then .int .i64 0 else .int .i64 7), .lit (bif Nat.beq k 0 then .int .i64 0 else .int .i64 10), .lit (bif Nat.beq k 0 then .int .i64 0 else .int .i64 3), .lit (bif Nat.beq k 0 then .int .i64 0 else .int .i64 2), .lit (bif Nat.beq k 0 then .int .i64 0 else .int .i64 100),bL (!Nat.beq k 0)]],true⟩)]) (fun ⟨k,_⟩=>1 - k) ⟨0,by decide⟩ (.c (.c (.c (.c .n)))) (Ag (h:=(Ag (h:=(Ag (h:=(Ag))))))) trivial ?_))))))))))))))))))))))))))))))))))))))))))))))))))
 rintro ⟨k,hk⟩ R0 hR0;dsimp only [cA,nA,lC,lN]
 obtain rfl | rfl:k=0∨k=1:=by omega
 ·skip;refine Aj (Ab fun _ z=>Y Aa (Y AP (Y (An 0 am_fi328_0 am_cl326) (Cs [3] 4 [_,_,_,_] (hob:=(Ag)) (hF:=D8 _ (by decide) rfl) (hn':=B7 rfl rfl) (h:=Y (OZ am_fi330_0 am_ag3) (Y Bn (Ac z (Bh (fun c4=>?_) (fun c4=>?_)))))))))
  ·refine Am (Ev.block (Ah fun _ z=>Y Aa (Cs [3] 4 [_,_,_,_] (hob:=(Ag)) (hF:=RN _ (by decide) (by decide) rfl akN9 rfl rfl (by decide)) (hn':=B7 rfl rfl) (h:=Ac z (hR0 _ _ (A4 [0,1,2,3] [2,3,4,6] ⟨1,by decide⟩ ?_ (Ag (h:=(Ag (h:=(Ag (h:=(Ag))))))) trivial (.c (.c (.c (.c .n))))))))));skip;all_goals (dsimp only;omega)
  omega
 skip;refine Aj (Ab fun _ z=>Y Aa (Y AP (Y (An 0 am_fi328_0 am_cl326) (Cs [3] 4 [_,_,_,_] (hob:=(Ag)) (hF:=D8 _ (by decide) rfl) (hn':=B7 rfl rfl) (h:=Y (OZ am_fi330_0 am_ag3) (Y Bn (Ac z (Bh (fun c5=>?_) (fun c5=>?_)))))))))
 ·omega
 refine AA (hR0 _ _ (Aj (Ab fun _ z=>Y Aa (Y AP (Y (An 21 am_fi328_2 am_cl4) (Y (Ao am_ag4) (Y Bw (Ac z (En (fun c6=>?_) (fun c6=>?_))))))))))
 ·contradiction
 refine Am (Ab fun _ z=>Y Aa (Y AP (Y (An 2 am_fi328_1 am_cl47) (Y (A6 _ am_ag47 am_cl47) (Y (Bg _ am_ze75 am_pl75) (Ar _ true [_,_,_] am_in47 am_cl47 (h:=Ar _ true [_,_,_] am_in75 am_cl75 (h:=Ar _ true [_,_,_] am_in27 am_cl27 (h:=Ac z (Ai (Df (Bp [_,_,_,_,_,_,_,_,_,_,_,_,_,_,_,_,_,_,_] am_ag47 am_cl47 (Bp [_,_] am_ag75 am_cl75 (Hy am_ag27 res_n))) (⟨?_,rfl⟩))))))))))));rfl
theorem NG (g:FuncId):Fun Tryz.prog 202 [.lit (.slice none 0 0), .fn (.func g) [] []] (AI (iL (-1)) []):=by
 refine Fun.of (nt:=19) (rs:=[.tmp 4]) Tryz.func202 rfl rfl rfl rfl rfl (Ab fun _ k=>Y Ad (Ac k (Aj (Ab fun _ k=>Y Aa (Y (DX am_el37) (Y Aa (Ac k (Ev.block (AC (ι:=Unit) [] [0,1,7] (fun _=>[(8,iL (0))]) (fun _=>[]) (fun _=>0) () (.c (.c (.c .n))) AN (Ae) ?_)))))))));rintro _u R0 hR0;dsimp only [cA,nA,lC,lN];skip;skip;refine Ab fun _ k=>Y As (Ac k (AG (fun c1=>?_) (fun c1=>?_)))
 ·omega
 refine AA (hR0 _ _ (Ab fun _ k=>Y Ad (Ac k (Ai (Ap ?_)))));rfl
theorem J2 (g:FuncId):Fun Tryz.prog 93 [.lit (.slice none 0 0), .fn (.func g) [] []] (AI (bL false) []):=by
 refine Fun.of (nt:=9) (rs:=[.tmp 4]) Tryz.func93 rfl rfl rfl rfl rfl (Ab fun _ k=>Y Ad (Ac k (Ab fun _ k=>Y Aa (Y Aa (Ay (hF:=NG g) (h:=Y BR (Y Ad (Ac k (Ai (Ap ?_))))))))));rfl
theorem NF (g:FuncId):Fun Tryz.prog 203 [.lit (.slice none 0 0), .fn (.func g) [] []] (AI (iL (-1)) []):=by
 refine Fun.of (nt:=19) (rs:=[.tmp 4]) Tryz.func203 rfl rfl rfl rfl rfl (Ab fun _ k=>Y Ad (Ac k (Aj (Ab fun _ k=>Y Aa (Y (DX am_el22) (Y Aa (Ac k (Ev.block (AC (ι:=Unit) [] [0,1,7] (fun _=>[(8,iL (0))]) (fun _=>[]) (fun _=>0) () (.c (.c (.c .n))) AN (Ae) ?_)))))))));rintro _u R0 hR0;dsimp only [cA,nA,lC,lN];skip;skip;refine Ab fun _ k=>Y As (Ac k (AG (fun c1=>?_) (fun c1=>?_)))
 ·omega
 refine AA (hR0 _ _ (Ab fun _ k=>Y Ad (Ac k (Ai (Ap ?_)))));rfl
theorem N8 (g:FuncId):Fun Tryz.prog 94 [.lit (.slice none 0 0), .fn (.func g) [] []] (AI (bL false) []):=by
 refine Fun.of (nt:=9) (rs:=[.tmp 4]) Tryz.func94 rfl rfl rfl rfl rfl (Ab fun _ k=>Y Ad (Ac k (Ab fun _ k=>Y Aa (Y Aa (Ay (hF:=NF g) (h:=Y BR (Y Ad (Ac k (Ai (Ap ?_))))))))));rfl
theorem NI (g:FuncId):Fun Tryz.prog 204 [.lit (.slice none 0 0), .fn (.func g) [] []] (AI (iL (-1)) []):=by
 refine Fun.of (nt:=19) (rs:=[.tmp 4]) Tryz.func204 rfl rfl rfl rfl rfl (Ab fun _ k=>Y Ad (Ac k (Aj (Ab fun _ k=>Y Aa (Y (DX am_el23) (Y Aa (Ac k (Ev.block (AC (ι:=Unit) [] [0,1,7] (fun _=>[(8,iL (0))]) (fun _=>[]) (fun _=>0) () (.c (.c (.c .n))) AN (Ae) ?_)))))))));rintro _u R0 hR0;dsimp only [cA,nA,lC,lN];skip;skip;refine Ab fun _ k=>Y As (Ac k (AG (fun c1=>?_) (fun c1=>?_)))
 ·omega
 refine AA (hR0 _ _ (Ab fun _ k=>Y Ad (Ac k (Ai (Ap ?_)))));rfl
theorem NA (g:FuncId):Fun Tryz.prog 96 [.lit (.slice none 0 0), .fn (.func g) [] []] (AI (bL false) []):=by
 refine Fun.of (nt:=9) (rs:=[.tmp 4]) Tryz.func96 rfl rfl rfl rfl rfl (Ab fun _ k=>Y Ad (Ac k (Ab fun _ k=>Y Aa (Y Aa (Ay (hF:=NI g) (h:=Y BR (Y Ad (Ac k (Ai (Ap ?_))))))))));rfl
theorem L7 (g:FuncId):Fun Tryz.prog 205 [.lit (.slice none 0 0), .fn (.func g) [] []] (AI (iL (-1)) []):=by
 refine Fun.of (nt:=19) (rs:=[.tmp 4]) Tryz.func205 rfl rfl rfl rfl rfl (Ab fun _ k=>Y Ad (Ac k (Aj (Ab fun _ k=>Y Aa (Y (DX am_el42) (Y Aa (Ac k (Ev.block (AC (ι:=Unit) [] [0,1,7] (fun _=>[(8,iL (0))]) (fun _=>[]) (fun _=>0) () (.c (.c (.c .n))) AN (Ae) ?_)))))))));rintro _u R0 hR0;dsimp only [cA,nA,lC,lN];skip;skip;refine Ab fun _ k=>Y As (Ac k (AG (fun c1=>?_) (fun c1=>?_)))
 ·omega
 refine AA (hR0 _ _ (Ab fun _ k=>Y Ad (Ac k (Ai (Ap ?_)))));rfl
theorem Lx (g:FuncId):Fun Tryz.prog 99 [.lit (.slice none 0 0), .fn (.func g) [] []] (AI (bL false) []):=by
 refine Fun.of (nt:=9) (rs:=[.tmp 4]) Tryz.func99 rfl rfl rfl rfl rfl (Ab fun _ k=>Y Ad (Ac k (Ab fun _ k=>Y Aa (Y Aa (Ay (hF:=L7 g) (h:=Y BR (Y Ad (Ac k (Ai (Ap ?_))))))))));rfl
theorem NH (g:FuncId):Fun Tryz.prog 206 [.lit (.slice none 0 0), .fn (.func g) [] []] (AI (iL (-1)) []):=by
 refine Fun.of (nt:=19) (rs:=[.tmp 4]) Tryz.func206 rfl rfl rfl rfl rfl (Ab fun _ k=>Y Ad (Ac k (Aj (Ab fun _ k=>Y Aa (Y (DX am_el43) (Y Aa (Ac k (Ev.block (AC (ι:=Unit) [] [0,1,7] (fun _=>[(8,iL (0))]) (fun _=>[]) (fun _=>0) () (.c (.c (.c .n))) AN (Ae) ?_)))))))));rintro _u R0 hR0;dsimp only [cA,nA,lC,lN];skip;skip;refine Ab fun _ k=>Y As (Ac k (AG (fun c1=>?_) (fun c1=>?_)))
 ·omega
 refine AA (hR0 _ _ (Ab fun _ k=>Y Ad (Ac k (Ai (Ap ?_)))));rfl
theorem N9 (g:FuncId):Fun Tryz.prog 101 [.lit (.slice none 0 0), .fn (.func g) [] []] (AI (bL false) []):=by
 refine Fun.of (nt:=9) (rs:=[.tmp 4]) Tryz.func101 rfl rfl rfl rfl rfl (Ab fun _ k=>Y Ad (Ac k (Ab fun _ k=>Y Aa (Y Aa (Ay (hF:=NH g) (h:=Y BR (Y Ad (Ac k (Ai (Ap ?_))))))))));rfl
theorem RP (s:Int):Fun Tryz.prog 199 [iL s] (AI (bL (decide (¬ (-999999999999999≤s∧s≤999999999999999)))) []):=by
 refine Fun.of (nt:=9) (rs:=[.tmp 2]) Tryz.func199 rfl rfl rfl rfl rfl (Ab fun _ k=>Y Ad (Ac k (Ab fun _ k=>Y Aa (Y As (AS Aa (fun c1=>?_) (fun c1=>?_))))))
 ·refine Au (Y AF (Y Ad (Ac k (Ai (Ap ?_)))));exact bT (fun h=>by omega)
 refine Y Aa (Y Be (Y AE (Y Ad (Ac k (Ai (Ap ?_))))));exact dI ⟨fun h h2=>by omega,fun h=>by omega⟩
theorem N1 (l:List Int) (h1:l.length≤100) (h:∀ n ∈ l, -999999999999999≤n∧n≤999999999999999):Fun Tryz.prog 89 [.sh 1 (l.map AD)] (AI (bL true) []):=by
 have hx:decide (∃ x ∈ l,(fun s:Int=>decide (¬ (-999999999999999≤s∧s≤999999999999999))) x=true)=false:=decide_eq_false fun ⟨x,h2,h3⟩=>of_decide_eq_true h3 (h x h2);have hc:=HI 199 _ RP l (by omega);rw [hx] at hc;refine Fun.of (nt:=6) (rs:=[.tmp 2]) Tryz.func89 rfl rfl rfl rfl rfl (Ab fun _ k=>Y Ad (Ac k (Ab fun _ k=>Y Aa (Ay (hF:=hc) (h:=Y Bw (Y Ad (Ac k (Ai (Ap ?_)))))))));rfl
theorem T0 (a0 a1 a2 a3 a4 a5 a6 a7 a8:Int):Fun Tryz.prog 92 [.agg [iL a0,iL a1,iL a2,iL a3,iL a4,iL a5,iL a6,iL a7,iL a8]] (AI (.sh 1 (([a0,a1,a2,a3,a4,a5,a6,a7,a8]:List Int).map AD)) []):=by
 refine Fun.of (nt:=22) (rs:=[.tmp 2]) Tryz.func92 rfl rfl rfl rfl rfl (Ab fun _ k=>Aq (Bo _ true) (Y Ad (Ac k (Ab fun _ k=>Y (An 0 am_fi45_0 am_cl3) (Y (Ao am_ag3) (Y (An 1 am_fi45_1 am_cl3) (Y (Ao am_ag3) (Y (An 2 am_fi45_2 am_cl3) (Y (Ao am_ag3) (Y (An 3 am_fi45_3 am_cl3) (Y (Ao am_ag3) (Y (An 4 am_fi45_4 am_cl3) (Y (Ao am_ag3) (Y (An 5 am_fi45_5 am_cl3) (Y (Ao am_ag3) (Y (An 6 am_fi45_6 am_cl3) (Y (Ao am_ag3) (Y (An 7 am_fi45_7 am_cl3) (Y (Ao am_ag3) (Y (An 8 am_fi45_8 am_cl3) (Y (Ao am_ag3) (Aq (Bf [[_],[_],[_],[_],[_],[_],[_],[_],[_]] true am_el24 am_ze3 am_cl3) (Y Ad (Ac k (Av (Wk.frzl (f:=AD) [_,_,_,_,_,_,_,_,_] 2 [_]) (Ai (Ap ?_)))))))))))))))))))))))))));rfl
theorem akName_fun:Fun Tryz.prog 91 [sL [109]] (AI (bL true) []):=by
 have h:=LA [109] (by decide)
 rwa [show decide (EH [109])=true by decide] at h
theorem writable_fun:Fun Tryz.prog 26 [.agg akDet] (AI (bL true) []):=by
 refine Fun.of (nt:=95) (rs:=[.tmp 2]) Tryz.func26 rfl rfl rfl rfl rfl (Ab fun _ k=>Aq (Bo _ true) (Y Ad (Ac k (Ab fun _ k=>Y (An 0 am_fi47_0 am_cl41) (Y (A6 _ am_ag41 am_cl41) (Aq (AT am_ze41) (Ar _ true [_] am_in41 am_cl41 (h:=Ac k (Aj (Ab fun _ k=>Y (An 1 am_fi41_1 am_cl39) (Y (An 1 am_fi39_0 am_cl37) (Y (Ao am_ag37) (Y (DX am_el37) (Y Be (AS Aa (fun c1=>?_) (fun c1=>?_))))))))))))))))
 ·omega
 refine Y (An 1 am_fi41_1 am_cl39) (Y (An 2 am_fi39_1 am_cl37) (Y (Ao am_ag37) (Y (DX am_el37) (Y Be (Y AE (AS Aa (fun c2=>?_) (fun c2=>?_)))))))
 ·omega
 refine Y (An 6 am_fi47_1 am_cl22) (Y (Ao am_ag22) (Y (DX am_el22) (Y Be (Y AE (AS Aa (fun c3=>?_) (fun c3=>?_))))))
 ·omega
 refine Y (An 7 am_fi47_2 am_cl23) (Y (Ao am_ag23) (Y (DX am_el23) (Y Be (Y AE (AS Aa (fun c4=>?_) (fun c4=>?_))))))
 ·omega
 refine Y (An 8 am_fi47_3 am_cl42) (Y (Ao am_ag42) (Y (DX am_el42) (Y Be (Y AE (AS Aa (fun c5=>?_) (fun c5=>?_))))))
 ·omega
 refine Y (An 9 am_fi47_4 am_cl43) (Y (Ao am_ag43) (Y (DX am_el43) (Y Be (Y AE (Ac k (Az (fun c6=>?_) (fun c6=>?_)))))))
 ·omega
 refine Am (Ab fun _ k=>Y Ad (Ac k (Aj (Ev.block (Ab fun _ k=>Y (An 0 am_fi41_0 am_cl9) (Y (Ao am_ag9) (Ay (hF:=akName_fun) (h:=Y IT (Y Aa (Y (An 3 am_fi41_2 am_cl3) (Y (Ao am_ag3) (Y (An 4 am_fi41_3 am_cl3) (Y (Ao am_ag3) (Y (An 5 am_fi41_4 am_cl3) (Y (Ao am_ag3) (Aq (Bf [[_],[_],[_]] true am_el24 am_ze3 am_cl3) (SeqL.weaken (Wk.frzl (f:=AD) [30,20,40] 55 [_,_]) (Ay (hF:=N1 [30,20,40] (by decide) (by decide)) (h:=Y IT (Y AE (Y Aa (Y (An 10 am_fi47_5 am_cl45) (Y (A6 _ am_ag45 am_cl45) (Ay (hF:=T0 _ _ _ _ _ _ _ _ _) (h:=Ay (hF:=N1 [40,1,10,7,7,10,3,2,100] (by decide) (by decide)) (h:=Y IT (Y AE (Y Ad (Ac k (Cw (Ab fun _ k=>Y (An 1 am_fi41_1 am_cl39) (Y (An 1 am_fi39_0 am_cl37) (Y (Ao am_ag37) (Y Aa (Ay (hF:=J2 _) (h:=Y Aa (Y (An 1 am_fi41_1 am_cl39) (Y (An 2 am_fi39_1 am_cl37) (Y (Ao am_ag37) (Y Aa (Ay (hF:=J2 _) (h:=Y AE (Y Ad (Ac k (Cw (Ab fun _ k=>Y (An 6 am_fi47_1 am_cl22) (Y (Ao am_ag22) (Ay (hF:=N8 _) (h:=Y Ad (Ac k (Cw (Ab fun _ k=>Y (An 7 am_fi47_2 am_cl23) (Y (Ao am_ag23) (Ay (hF:=NA _) (h:=Y Ad (Ac k (Cw (Ab fun _ k=>Y (An 8 am_fi47_3 am_cl42) (Y (Ao am_ag42) (Ay (hF:=Lx _) (h:=Y Ad (Ac k (Cw (Am (Ab fun _ k=>Y (An 9 am_fi47_4 am_cl43) (Y (Ao am_ag43) (Ay (hF:=N9 _) (h:=Y LU (Y Ad (Ac k (Ai (Ap ?_))))))))))))))))))))))))))))))))))))))))))))))))))))))))))))))))))))))))
 rfl
theorem parse_fun:Fun Tryz.prog 28 [sL akText] (AI (.tup [.agg akDet, .agg [iL 0,iL 0],iL 0]) []):=by
 refine Fun.of (nt:=28) (rs:=[.cell 2 47, .cell 3 75, .tmp 4]) Tryz.func28 rfl rfl rfl rfl rfl (Ab fun _ k=>Aq (AT am_ze47) (Aq (AT am_ze75) (Y Ad (Ac k (Ab fun _ k=>Y Aa (Ay (hF:=read_fun) (h:=Y Aa (Y AH (Y AH (Y AH (Aq (AT am_ze47) (Aq (AT am_ze75) (Ar _ true [_,_,_] am_in47 am_cl47 (h:=Ar _ true [_,_,_] am_in75 am_cl75 (h:=Y Ad (Ac k (Aj (Ev.block (Ab fun _ k=>Y Aa (Y Bn (Y Ad (Ac k (Bh (fun c1=>?_) (fun c1=>?_))))))))))))))))))))))))
 ·omega
 refine Ab fun _ k=>Y (A6 _ am_ag47 am_cl47) (Ay (hF:=writable_fun) (h:=Y IT (Y Ad (Ac k (Cw (Am (Ab fun _ k=>Y (A6 _ am_ag47 am_cl47) (Y (Bg _ am_ze75 am_pl75) (Ar _ true [_,_,_] am_in47 am_cl47 (h:=Ar _ true [_,_,_] am_in75 am_cl75 (h:=Y Ad (Ac k (Ai (Df (Bp [_,_,_,_,_,_,_,_,_,_,_,_,_,_,_,_,_,_,_] am_ag47 am_cl47 (Bp [_,_] am_ag75 am_cl75 (Db res_n))) (⟨?_,rfl⟩)))))))))))))));rfl
theorem N7 (l:List (List UInt8)) (hlen:l.length≤1000000):Fun Tryz.prog 138 [.sh 1 (l.map Hj)] (AI (.als 0 0 l.length) [(0,⟨true,9,1,l.map Hj,true⟩)]):=by
 refine Fun.of (nt:=8) (rs:=[.tmp 2]) Tryz.func138 rfl rfl rfl rfl rfl (Ab fun _ k=>Y Ad (Ac k (Aj (Ab fun _ k=>Y Aa (Vh am_el90 (fun c1 c2=>(Ac k (En (fun c3=>?_) (fun c3=>?_)))))))))
 ·refine Ab fun _ k=>Y Ad (Ac k (Av (Wk.nown Hj 2 9 1) (Ai (H4 (⟨?_,?_⟩)))));all_goals rw [List.map_eq_nil_iff.1 (c2 c3)]
 refine Am (Ab fun _ k=>Aq (v:= .als 0 0 ([]:List (List UInt8)).length) (o:=⟨true,9,1,([]:List (List UInt8)).map Hj,true⟩) (Bf [] true am_el90 am_ze9 am_cl9) (Y Aa (AW [] am_el90 am_ze9 am_cl9 am_by9 (hh:=A3) (hr:=MC) (h:=Y Ad (Ac k (Ai (H4 (⟨?_,?_⟩))))))));all_goals rfl
theorem new_afun:Fun Tryz.prog 39 [] (AI (.adr 0 0 0) [(0,⟨false,244,1,[[.lit (.slice none 0 0)]],true⟩)]):=by
 refine Fun.of (nt:=3) (rs:=[.tmp 0]) Tryz.func39 rfl rfl rfl rfl rfl (Ab fun _ k=>Y Ad (Ac k (Ab fun _ k=>Y (Bg _ am_ze244 am_pl244) (Aq (Bo _ true) (Y Ad (Ac k (Ai (V0 [0] (Db res_n) (⟨?_,?_⟩)))))))));all_goals rfl
theorem akFirst_fun:Fun Tryz.prog 246 [sL akLine] (AI (sL [109,101,109,98,101,114]) []):=by
 have h2:=Ir akLine (by decide)
 rwa [show (HK 32 akLine).1=[109,101,109,98,101,114] by decide] at h2
theorem akText_fun:Fun Tryz.prog 143 [.sh 1 (([] ++ [akLine]:List (List UInt8)).map Hj)] (AI (sL akText) []):=by
 have h2:=T4 [akLine] rfl (by decide) (by decide) (by decide)
 rwa [show EY [akLine] ++ usualT=akText by decide] at h2
theorem build_fun:FunR Tryz.prog 137 [.adr 0 0 0,sL akLine] [(0,⟨false,244,1,[[.lit (.slice none 0 0)]],true⟩)] 1 (AI (iL 0) [(0,⟨false,244,1,[[.sh 1 ([akLine].map Hj)]],true⟩)]):=by
 refine FunR.of (nt:=51) (rs:=[.tmp 4]) Tryz.func137 rfl rfl rfl rfl rfl (Ab fun _ k=>Y Ad (Ac k (Aj (Ev.block (BW (tbs [(0,0),(1,1),(2,3),(3,7),(4,15),(5,31),(0,0),(7,64),(8,192),(9,511),(10,1023)]) 10 fun _ k=>Ak Aa (Ak AP (Ak (An 0 am_fi244_0 am_cl90) (Ak (Ao am_ag90) (Ak (DX am_el90) (Ak Bk (Ak Aa (Cc (hF:=akFirst_fun) (h:=Ak DY (Ak (Xn am_un4) (B3 [_] (h:=Y Ad (Ac k (En (fun c1=>?_) (fun c1=>?_)))))))))))))))))))
 ·contradiction
 refine Ab fun _ k=>Y Aa (Y AP (Y (An 0 am_fi244_0 am_cl90) (Y (Ao am_ag90) (Y (DX am_el90) (Y BR (Y Ad (Ac k (Az (fun c2=>?_) (fun c2=>?_)))))))))
 ·omega
 refine Am (Ab fun _ k=>Y Aa (Y AP (Y (An 0 am_fi244_0 am_cl90) (Y (Ao am_ag90) (SeqL.weaken (Wk.nsh Hj 30 1) (Oe (hF:=N7 [] (by decide)) (h:=Y Aa (Aq (Bf [[_]] true am_el90 am_ze9 am_cl9) (AW [_,_] am_el90 am_ze9 am_cl9 am_by9 (hh:=A3) (hr:=(A7 [_])) (h:=Y Ad (Ac k (Aj (Av (Wk.frz 5 [_,_]) (Ab fun _ k=>Y Aa (Ay (hF:=akText_fun) (h:=Ay (hF:=parse_fun) (h:=Y Aa (Y AH (Y AH (Y AH (Aq (AT am_ze47) (Aq (AT am_ze75) (Ar _ true [_,_,_] am_in47 am_cl47 (h:=Ar _ true [_,_,_] am_in75 am_cl75 (h:=Y Ad (Ac k (Ab fun _ k=>Y Aa (Ac k (Ev.block (Ab fun _ k=>Y Bk (Y Ad (Ac k (Az (fun c3=>?_) (fun c3=>?_))))))))))))))))))))))))))))))))))
 ·refine Ab fun _ k=>Y Aa (Y Aa (Y AP (Y (An 0 am_fi244_0 am_cl90) (Ar _ true [_,_,_] am_in90 am_cl90 (h:=Ac k (Ab fun _ k=>Y Ad (Ac k (Ai (D9 [0] (B5 (h:=BZ)) leads1 (⟨?_,?_⟩))))))))));all_goals rfl
 omega
theorem do_afun:FunR Tryz.prog 40 [.adr 0 0 0,sL akLine] [(0,⟨false,244,1,[[.lit (.slice none 0 0)]],true⟩)] 1 (AI (.tup [sL [],iL 0]) [(0,⟨false,244,1,[[.sh 1 ([akLine].map Hj)]],true⟩)]):=by
 have hll:akLine.length=17:=rfl;refine FunR.of (nt:=66) (rs:=[.tmp 4, .tmp 5]) Tryz.func40 rfl rfl rfl rfl rfl (Ab fun _ k=>Y Ad (Y Ad (Ac k (Aj (Ev.block (Ab fun _ k=>Y Aa (Of (by kernel_rfl:Tryz.prog.underlying 93=some (.pointer 244)) (h:=Y Ad (Ac k (Cw (Ab fun _ k=>Y Aa (Y (CB am_el9 am_un9) (Y Be (Y Ad (Ac k (Az (fun c1=>?_) (fun c1=>?_)))))))))))))))))
 ·omega
 refine Ab fun _ k=>Y Aa (Ay (hF:=builds_fun) (h:=Y Ad (Ac k (BI (Ab fun _ k=>Y Aa (Y Aa (Cs [0] 1 [_] (hob:=(Ag)) (hF:=build_fun) (hn':=B7 rfl rfl) (h:=Y Ad (Y Ad (Ac k (Ai (Oa [0] (B5 (h:=BZ)) leads1 (⟨?_,?_⟩)))))))))))));all_goals rfl
theorem akOrder_fun:Fun Tryz.prog 46 [.sh 5 (akBars.map Bar.c), .sh 10 (akRuns.map Rn.c), .sh 1 (([3,3]:List Int).map AD)] (AI (.tup [.sh 1 (([1,0]:List Int).map AD),iL 0]) []):=by
 have h:=Qb akBars akRuns ak_ok ak_w ak_rw (by decide) [3,3] (by decide) (by decide);rw [ak_e1,ak_n] at h;refine h.mono ?_;rintro v l ⟨r,hr,rfl,rfl⟩;rw [WN hr];exact ⟨rfl,rfl⟩
theorem akNeeded_fun:Fun Tryz.prog 12 [.sh 5 (akBars.map Bar.c), .sh 10 (akRuns.map Rn.c), .sh 1 (([-3,3]:List Int).map AD)] (AI (.tup [.sh 1 (([0]:List Int).map AD),iL 0]) []) :=
 Ht akBars akRuns ak_ok ak_w ak_rw (by decide) [-3,3] (by decide) (by decide) false (by rw [ak_e2,ak_n];exact ak_need)
theorem akTotal_fun:Fun Tryz.prog 47 [.sh 5 (akBars.map Bar.c)] (AI (.tup [iL 864,iL 0]) []):=by
 have h:=Sh akBars (by decide) ak_w
 rwa [ak_tot.1,ak_tot.2] at h
theorem akSquare_fun:Fun Tryz.prog 49 [.sh 5 (akBars.map Bar.c), .sh 10 (akRuns.map Rn.c),iL 0,iL 1] (AI (.tup [iL 1600,iL 0]) []):=by
 have h:=Oo akBars akRuns ak_ok ak_w ak_rw (by decide) 0 1 (by decide) (by decide) (by decide)
 rwa [ak_sq] at h
theorem cageAwake_fun:Fun Tryz.prog 6 [] (AI (bL true) []):=by
 refine Fun.of (nt:=122) (rs:=[.tmp 0]) Tryz.func6 rfl rfl rfl rfl rfl (Ab fun _ k=>Y Ad (Ac k (Ab fun _ k=>Ay (hF:=cageBars_fun) (h:=Y Aa (Y AH (Y AH (Y Ad (Y Ad (Ac k (Ab fun _ k=>Y Aa (Y Aa (Aq (Bf [[_],[_]] true am_el24 am_ze3 am_cl3) (SeqL.weaken (Wk.frzl (f:=AD) [3,3] 25 []) (Ay (hF:=akOrder_fun) (h:=Y Aa (Y AH (Y AH (Y Ad (Y Ad (Ac k (Ab fun _ k=>Y Aa (Y Aa (Aq (Bf [[_],[_]] true am_el24 am_ze3 am_cl3) (SeqL.weaken (Wk.frzl (f:=AD) [-3,3] 32 []) (Ay (hF:=akNeeded_fun) (h:=Y Aa (Y AH (Y AH (Y Ad (Y Ad (Ac k (Ab fun _ k=>Y Aa (Ay (hF:=akTotal_fun) (h:=Y Aa (Y AH (Y AH (Y Ad (Y Ad (Ac k (Ab fun _ k=>XR (hF:=new_afun) (h:=Y Ad (Ac k (Aj (Ab fun _ k=>Y Aa (Of (by kernel_rfl:Tryz.prog.underlying 93=some (.pointer 244)) (h:=Ac k (Cw (Am (Ab fun _ k=>Y Aa (Cs [2] 3 [_] (hob:=(Ag)) (hF:=do_afun) (hn':=B7 rfl rfl) (h:=Y Aa (Y AH (Y AH (Y Ad (Y Ad (Ac k (Ab fun _ k=>Ay (hF:=pulse_fun) (h:=Y Aa (Y AH (Y AH (Y Ad (Y Ad (Ac k (Ab fun _ k=>Y Aa (Y Aa (Ay (hF:=akSquare_fun) (h:=Y Aa (Y AH (Y AH (Y Ad (Y Ad (Ac k (Ab fun _ k=>Y (Bg _ am_ze112 am_pl112) (SeqL.weaken (Wk.nsa (cs':=[.sh 1 (([]:List (List (Int × Int))).map MJ),iL (-1),iL (-1),iL (-1)]) [2,0,0,0] 60) (Fw (hF:=encode_fun) (h:=fun b hb=>(Y Aa (Y AH (Y AH (Y Ad (Y Ad (Ac k (Ab fun _ k=>Y Aa (Y Bk (AS Aa (fun c1=>?_) (fun c1=>?_))))))))))))))))))))))))))))))))))))))))))))))))))))))))))))))))))))))))))))))))))))))
 ·refine Y Aa (Aq (Bf [[_],[_]] true am_el24 am_ze3 am_cl3) (SeqL.weaken (Wk.frzl (f:=AD) [1,0] 68 [_]) (Ay (hF:=J3 [1,0] [1,0] (by decide) (by decide)) (h:=Y AF (AS Aa (fun c2=>?_) (fun c2=>?_))))))
  ·refine Y Aa (Y Bk (Y AF (AS Aa (fun c3=>?_) (fun c3=>?_))))
   ·refine Y Aa (Aq (Bf [[_]] true am_el24 am_ze3 am_cl3) (SeqL.weaken (Wk.frzl (f:=AD) [0] 77 [_]) (Ay (hF:=J3 [0] [0] (by decide) (by decide)) (h:=Y AF (AS Aa (fun c4=>?_) (fun c4=>?_))))))
    ·refine Y Aa (Y Bk (Y AF (AS Aa (fun c5=>?_) (fun c5=>?_))))
     ·refine Y Aa (Y Bk (Y AF (AS Aa (fun c6=>?_) (fun c6=>?_))))
      ·refine Y Aa (Y Bk (Y AF (AS Aa (fun c7=>?_) (fun c7=>?_))))
       ·refine Y Aa (Y DY (Y AF (AS Aa (fun c8=>?_) (fun c8=>?_))))
        ·refine Y Aa (Y Bk (Y AF (AS Aa (fun c9=>?_) (fun c9=>?_))))
         ·refine Y Aa (Y (A5 am_el59) (Y Bk (Y AF (AS Aa (fun c10=>?_) (fun c10=>?_)))))
          ·refine Y Aa (Y Bk (Y AF (AS Aa (fun c11=>?_) (fun c11=>?_))))
           ·refine Y Aa (Y Bk (Y AF (AS Aa (fun c12=>?_) (fun c12=>?_))))
            ·refine Y Aa (Y Bk (Y AF (AS Aa (fun c13=>?_) (fun c13=>?_))))
             ·refine Y Aa (Y (A5 am_el107) (Y Bk (Y AF (Y Ad (Ac k (Ai (Ap ?_)))))));exact congrArg (fun z=>bL z) (decide_eq_true (by omega))
             omega
            omega
           omega
          contradiction
         omega
        contradiction
       omega
      omega
     omega
    contradiction
   omega
  contradiction
 omega
theorem Wu (bars:List Bar) (runs:List Rn) (axes order:List Int) (h1:bars.length≤140737488355328) (hw:Ce bars) (h2:runs.length≤140737488355328) (hrw:Dw runs) (hax:axes.length≤140737488355328) (hor:order.length≤140737488355328):Fun Tryz.prog 3 [.sh 5 (bars.map Bar.c), .sh 10 (runs.map Rn.c), .sh 1 (axes.map AD), .sh 1 (order.map AD)] (AI (bL true) []):=VW cageAwake_fun bars runs axes order h1 h2 hw hrw hax hor
section
open Go.ChangeShapes Go.WideShapes Go.RowKit
theorem KG {row:List AV} (h:WT Tryz.prog 9 row):∃ s:List UInt8,row=[.lit (C9 s)]∧s.length≤140737488355328:=by
 obtain ⟨s,rfl,hs⟩:=h.string_inv am_un9;refine ⟨s.data.toList,by rw [C9, ← Sq],?_⟩;have e:s.data.toList.length=s.size:=Array.length_toList;simp only [reachBytes] at hs;omega
theorem JX {row:List AV} (h:WT Tryz.prog 24 row):∃ l:List Int,row=[.sh 1 (l.map AD)]∧l.length≤140737488355328:=by
 obtain ⟨rows,rfl,h1,h2⟩:=h.slice_inv am_el24
 obtain ⟨l,rfl,_⟩:=Js (f:=AD) (q:=fun _=>True) (rows:=rows) (fun r hr=>by
  obtain ⟨a,rfl,_⟩:=(h2 r hr).int_inv am_un3
  exact ⟨a,rfl,trivial⟩)
 refine ⟨l,by rw [am_cl3],?_⟩;rw [am_by3,List.length_map] at h1;simp only [reachBytes] at h1;omega
theorem SZ {row:List AV} (h:WT Tryz.prog 22 row):∃ l:List Bar,row=[.sh 5 (l.map Bar.c)]∧l.length≤140737488355328∧Ce l:=by
 obtain ⟨rows,rfl,h1,h2⟩:=h.slice_inv am_el22
 obtain ⟨l,rfl,hq⟩:=Js (f:=Bar.c) (q:=Bar.w) (rows:=rows) (fun r hr=>by
  obtain ⟨r1,q1,rfl,k1,g1⟩:=((h2 r hr).struct_inv am_ft168).cons_inv;obtain ⟨r2,q2,rfl,k2,g2⟩:=g1.cons_inv;obtain ⟨r3,q3,rfl,k3,g3⟩:=g2.cons_inv;obtain ⟨r4,q4,rfl,k4,g4⟩:=g3.cons_inv;obtain ⟨r5,q5,rfl,k5,g5⟩:=g4.cons_inv;obtain rfl:=g5.nil_inv;obtain ⟨s,rfl,hs⟩:=KG k1;obtain ⟨a,rfl,_⟩:=k2.int_inv am_un3;obtain ⟨b,rfl,_⟩:=k3.int_inv am_un3;obtain ⟨c,rfl,_⟩:=k4.int_inv am_un3;obtain ⟨d,rfl,hd⟩:=JX k5
  exact ⟨⟨s,a,b,c,d⟩,rfl,hs,hd⟩)
 refine ⟨l,by rw [am_cl168],?_,hq⟩;rw [am_by168,List.length_map] at h1;simp only [reachBytes] at h1;omega
end
section
open Go.ChangeShapes Go.WideShapes Go.RowKit
theorem U8 {row:List AV} (h:WT Tryz.prog 194 row):∃ r:Rn,row=r.c∧r.mark.length≤140737488355328:=by
 obtain ⟨r1,q1,rfl,k1,g1⟩:=(h.struct_inv am_ft194).cons_inv;obtain ⟨r2,q2,rfl,k2,g2⟩:=g1.cons_inv;obtain ⟨r3,q3,rfl,k3,g3⟩:=g2.cons_inv;obtain ⟨r4,q4,rfl,k4,g4⟩:=g3.cons_inv;obtain ⟨r5,q5,rfl,k5,g5⟩:=g4.cons_inv;obtain rfl:=g5.nil_inv;obtain ⟨r6,q6,rfl,k6,g6⟩:=(k2.struct_inv am_ft192).cons_inv;obtain ⟨r7,q7,rfl,k7,g7⟩:=g6.cons_inv;obtain rfl:=g7.nil_inv;obtain ⟨r8,q8,rfl,k8,g8⟩:=(k3.struct_inv am_ft56).cons_inv;obtain ⟨r9,q9,rfl,k9,g9⟩:=g8.cons_inv;obtain ⟨r10,q10,rfl,k10,g10⟩:=g9.cons_inv;obtain rfl:=g10.nil_inv;obtain ⟨r11,q11,rfl,k11,g11⟩:=(k4.struct_inv am_ft56).cons_inv;obtain ⟨r12,q12,rfl,k12,g12⟩:=g11.cons_inv;obtain ⟨r13,q13,rfl,k13,g13⟩:=g12.cons_inv;obtain rfl:=g13.nil_inv;obtain ⟨s,rfl,hs⟩:=KG k1;obtain ⟨a0,rfl,_⟩:=k6.int_inv am_un3;obtain ⟨a1,rfl,_⟩:=k7.int_inv am_un3;obtain ⟨b0,rfl,_⟩:=k8.int_inv am_un3;obtain ⟨b1,rfl,_⟩:=k9.int_inv am_un3;obtain ⟨b2,rfl,_⟩:=k10.int_inv am_un3;obtain ⟨c0,rfl,_⟩:=k11.int_inv am_un3;obtain ⟨c1,rfl,_⟩:=k12.int_inv am_un3;obtain ⟨c2,rfl,_⟩:=k13.int_inv am_un3;obtain ⟨d0,rfl,_⟩:=k5.int_inv am_un3;exact ⟨⟨s,a0,a1,b0,b1,b2,c0,c1,c2,d0⟩,rfl,hs⟩
theorem Ta {row:List AV} (h:WT Tryz.prog 23 row):∃ l:List Rn,row=[.sh 10 (l.map Rn.c)]∧l.length≤140737488355328∧Dw l:=by
 obtain ⟨rows,rfl,h1,h2⟩:=h.slice_inv am_el23;obtain ⟨l,rfl,hq⟩:=Js (f:=Rn.c) (q:=fun r=>r.mark.length≤140737488355328) (rows:=rows) (fun r hr=>U8 (h2 r hr));refine ⟨l,by rw [am_cl194],?_,hq⟩;rw [am_by194,List.length_map] at h1;simp only [reachBytes] at h1;omega
end
end Go.Proofs.YtaololdbooblkaaGreatDoor
